/- Texts of one proof, joined: TVC, TVE, TOX, TVF, TT, TVG. -/
import Derived.Test.YtgjlchcfdbmmlaaDoorYh
import Derived.Test.YtgjlchcfdbmmlaaDoorYf
import Derived.Test.YtgjlchcfdbmmlaaDoorYg
import Derived.Test.YtgjlchcfdbmmlaaDoorYi
import Derived.Test.YtgjlchcfdbmmlaaDoorYd
import Derived.Test.YtgjlchcfdbmmlaaDoorYb
import Derived.ChangeArms
import Derived.DataReads
import Derived.WideShapes
import Derived.Deep.Slices
import Derived.SizedLaws
import Derived.Test.YtgjlchcfdbmmlaaDoorRows
import Derived.LaidMore
import Derived.Lib.LaidU8
set_option linter.unusedSimpArgs false
set_option linter.unusedVariables false
namespace Go.Proofs.YtgjlchcfdbmmlaaDoor.PObjectTakes
open Go.RowKit Go.Proofs.YtgjlchcfdbmmlaaDoor.Ord Go.Proofs.YtgjlchcfdbmmlaaDoor.Obj Go.Proofs.YtgjlchcfdbmmlaaDoorW.PrintWords Go.Proofs.YtgjlchcfdbmmlaaDoorW.PrintLast Go.Proofs.YtgjlchcfdbmmlaaDoorW.PrintMore
attribute [local irreducible] OpGives
attribute [local go_sem] rdl_const rdl_func rdl_global rdl_nil rdl_cons

/-- What the document's Take answers. -/
noncomputable def dTakeO (s : ByteArray) : Ob × Int := if (takeR s).2 ≠ 0 then (zOb, ((takeR s).2 : Int)) else
  if okOb (guessO (takeR s).1) && eqC (cellOf (guessO (takeR s).1)) (takeR s).1 then (guessO (takeR s).1, 0) else (zOb, 4)
theorem parts_in {x y : S42} (h : y ∈ x.f3) : parts y ≤ parts x := by
  rw [parts_eq x]; have := partsL_mem h; omega
theorem rowsL_len : ∀ {l : List S42} {rs : List S55}, rowsL l = some rs → rs.length = l.length
  | [], rs, h => by rw [rowsL] at h; cases h; rfl
  | x :: xs, rs, h => by
    rw [rowsL] at h
    cases hx : rowL x with
    | none => rw [hx] at h; cases h
    | some r =>
      rw [hx] at h
      simp only [Option.map_eq_some_iff] at h
      obtain ⟨ys, hy, rfl⟩ := h
      rw [List.length_cons, List.length_cons, rowsL_len hy]
theorem dTakeRows_len (x : S42) : (dTakeRows x).1.length ≤ x.f3.length := by
  unfold dTakeRows
  cases h : rowsL x.f3 with
  | none => exact Nat.zero_le _
  | some rs =>
    have := rowsL_len h
    simp only
    split
    · simp only; omega
    · exact Nat.zero_le _
theorem kid_wrap (n : Int) : 0 ≤ IntKind.u8.wrap n ∧ IntKind.u8.wrap n ≤ 255 := by
  have h : IntKind.u8.wrap n = n % 256 := by simp [IntKind.wrap, IntKind.bits, IntKind.signed]
  rw [h]; omega
theorem guess_len (x : S42) (h : parts x ≤ 1000000) : (guessO x).rows.length ≤ 1000000 ∧ (guessO x).kids.length ≤ 1000000 ∧ (guessO x).parents.length ≤ 1000000 ∧ ∀ k ∈ (guessO x).kids, 0 ≤ k.f0 ∧ k.f0 ≤ 255 := by
  obtain ⟨k0, n0, s0, l⟩ := x
  have hm : ∀ y ∈ l, y.f3.length ≤ 1000000 := fun y hy => by
    have h1 := parts_len y
    have h2 := parts_in (x := ⟨k0, n0, s0, l⟩) hy
    omega
  unfold guessO
  match l, hm with
  | [xa, b, r, k], hm =>
    refine ⟨Nat.le_trans (dTakeRows_len r) (hm r (by simp)), Nat.le_trans (List.length_filterMap_le _ _) (hm k (by simp)), Nat.zero_le _, fun y hy => ?_⟩
    obtain ⟨z, _, hz⟩ := List.mem_filterMap.1 hy
    unfold kidL at hz
    split at hz
    · cases hz; exact kid_wrap _
    · cases hz
  | [xa, p, sx, n, t], hm =>
    refine ⟨Nat.zero_le _, Nat.zero_le _, ?_, fun y hy => by cases hy⟩
    simp only [List.length_map]; exact hm p (by simp)
  | [], _ => exact ⟨Nat.zero_le _, Nat.zero_le _, Nat.zero_le _, fun y hy => by cases hy⟩
  | [a], _ => exact ⟨Nat.zero_le _, Nat.zero_le _, Nat.zero_le _, fun y hy => by cases hy⟩
  | [a, b], _ => exact ⟨Nat.zero_le _, Nat.zero_le _, Nat.zero_le _, fun y hy => by cases hy⟩
  | [a, b, d], _ => exact ⟨Nat.zero_le _, Nat.zero_le _, Nat.zero_le _, fun y hy => by cases hy⟩
  | a :: b :: d :: e :: f :: g :: l, _ => exact ⟨Nat.zero_le _, Nat.zero_le _, Nat.zero_le _, fun y hy => by cases hy⟩
theorem ob_results5 : (Tryd.f14).results = #[.cell 2 27, .tmp 3] := Tryd.results14
set_option maxHeartbeats 4000000 in
set_option maxRecDepth 100000 in
theorem dtake_calls (s : ByteArray) (w : World) (hs : s.size ≤ 1000000) (hp : (takeR s).2 = 0 → parts (takeR s).1 ≤ 1000000) :
    Calls Tryd.prog 14 #[.string s] w (TakeOPost (dTakeO s) w) := by
  obtain ⟨W1, hW1⟩ : ∃ W1, W1 = w.alloc (.cells obZ 27) := ⟨_, rfl⟩
  have hn1 : Below w.heap.size w W1 := by rw [hW1]; exact (Below.refl _ _).alloc (Nat.le_refl _) _
  have hg1 : W1.heap[w.heap.size]? = some (.cells obZ 27 (0, 0)) := by rw [hW1]; exact alloc_lastV _ _
  have hs1 : W1.heap.size = w.heap.size + 1 := by rw [hW1]; simp
  obtain ⟨k2, hk2⟩ := (Take_ref s (by omega)).rounds
  have HTK := Lib.hid (fastiref04_Take.calls k2 s _ _ _ _ _ W1 hk2)
  obtain ⟨RP, hRP⟩ : ∃ RP : Ending → World → Prop, RP = TakeOPost (dTakeO s) w := ⟨_, rfl⟩
  rw [← hRP]
  unfold dTakeO at hRP
  clear hk2
  obtain ⟨⟨x, f⟩, hx⟩ : ∃ y, y = takeR s := ⟨_, rfl⟩
  rw [← hx] at hRP hp HTK
  simp only at hRP hp HTK
  have HRP := Lib.hid hRP
  have HN1 := Lib.hid hn1
  have HG1 := Lib.hid hg1
  have HS1 := Lib.hid hs1
  have HP := Lib.hid hp
  unfold obZ at hW1
  have HW1 := Lib.hid hW1
  clear hn1 hg1 hs1 hW1 hRP hx hp
  have hzero : ∀ W, Below w.heap.size w W → W.heap[w.heap.size]? = some (.cells obZ 27 (0, 0)) → ∀ (er : Int) (tmps : Array Value), tmps.getD 2 undef = .pointer (some ⟨w.heap.size, 0, none⟩) → tmps.getD 3 undef = .int .i64 er → (RP = TakeOPost (zOb, er) w) →
      bodyPost Tryd.prog Tryd.f14 RP Exit.ret { tmps := tmps, defers := [] } W := fun W hW hg er tmps t2 t3 e => by
    refine bodyPost_ret (results_ob ob_results5 _ _ w.heap.size _ _ _ _ _ _ _ _ _ t2 t3 hg) rfl ?_
    rw [e]
    exact ⟨none, 0, none, 0, none, 0, rfl, ObR_zero _ _, hW⟩
  have HZERO := Lib.hid hzero
  clear hzero
  go_enter Tryd.func14, Tryd.ntmps14
  go_wp2_with fail
  rw [← HW1.out]
  refine HTK.out.mono ?_
  rintro e W2 ⟨v3, rfl, hR, hb2⟩
  simp only at hR ⊢
  obtain ⟨A3, c3, rfl⟩ := R_slice hR
  obtain ⟨W3, hW3⟩ : ∃ W3, W3 = W2.alloc (.cells #[.int .i64 x.f0, .int .i64 x.f1, .string x.f2, .slice A3 x.f3.length c3] 42) := ⟨_, rfl⟩
  have hn3 : Below W2.heap.size W2 W3 := by rw [hW3]; exact (Below.refl _ _).alloc (Nat.le_refl _) _
  have hg3 : W3.heap[W2.heap.size]? = some (.cells #[.int .i64 x.f0, .int .i64 x.f1, .string x.f2, .slice A3 x.f3.length c3] 42 (0, 0)) := by rw [hW3]; exact alloc_lastV _ _
  have hb13 : Below W1.heap.size W1 W3 := hb2.trans (hn3.mono hb2.size)
  have hz3 := (hb13.block _ (Array.getElem?_eq_some_iff.1 HG1.out).1).trans HG1.out
  unfold obZ at hz3
  have hbw : Below w.heap.size w W3 := HN1.out.trans (hb13.mono HN1.out.size)
  obtain ⟨_, hlc, hC⟩ := Kd.R_reads' (Kd.R_below hR hn3)
  obtain ⟨⟨z0, z1, z2, z3⟩, z4, z5, z6, z7⟩ := box8 hz3
  obtain ⟨⟨f0, f1, f2, f3⟩, f4, f5, f6, f7⟩ := frozen8 hz3
  obtain ⟨⟨y0, y1, y2, y3⟩, _⟩ := box4 hg3
  have HZ3 := Lib.hid hz3
  have HG3 := Lib.hid hg3
  have HBW := Lib.hid hbw
  have HCX := Lib.hid (And.intro hlc hC)
  have HS3 := Lib.hid (show w.heap.size + 1 ≤ W3.heap.size by have := hb13.size; have := HS1.out; omega)
  rw [hW3] at z0 z1 z2 z3 z4 z5 z6 z7 f0 f1 f2 f3 f4 f5 f6 f7 y0 y1 y2 y3
  have HW3 := Lib.hid hW3
  clear hR hb2 hn3 hg3 hb13 hz3 hbw hlc hC hW3
  by_cases he : f ≠ 0
  · have he' : ((f : Int) != 0) = true := by simp; omega
    go_upto_if 13 with (fail)
    rw [← HW3.out]
    clear z0 z1 z2 z3 z4 z5 z6 z7 f0 f1 f2 f3 f4 f5 f6 f7 y0 y1 y2 y3
    obtain ⟨⟨z0, z1, z2, z3⟩, z4, z5, z6, z7⟩ := box8 HZ3.out
    obtain ⟨⟨f0, f1, f2, f3⟩, f4, f5, f6, f7⟩ := frozen8 HZ3.out
    go_wp2_with fail
    refine HZERO.out (put8 W3 w.heap.size (.int .i64 0) (.string (⟨#[]⟩ : ByteArray)) (.slice none 0 0) (.slice none 0 0) (.slice none 0 0) (.int .i64 0) (.string (⟨#[]⟩ : ByteArray)) (.string (⟨#[]⟩ : ByteArray))) (put8_below HBW.out (Nat.le_refl _) _ _ _ _ _ _ _ _) (put8_same HZ3.out _ _ _ _ _ _ _ _) (f : Int) _ rfl rfl (by rw [HRP.out, if_pos he])
  · have he' : ((f : Int) != 0) = false := by simp; omega
    have hf0 : f = 0 := by omega
    have hpx := HP.out hf0
    have HPX := Lib.hid hpx
    have HGU := Lib.hid (dguess_calls x A3 c3 W3 HCX.out.2 (fun y hy => by
      have h1 := parts_len y
      have h2 := parts_in hy
      omega))
    clear z0 z1 z2 z3 z4 z5 z6 z7 f0 f1 f2 f3 f4 f5 f6 f7 hpx
    go_wp2_with fail
    rw [← HW3.out]
    clear y0 y1 y2 y3
    refine HGU.out.mono ?_
    rintro e W5 ⟨Ar, cr, Ak, ck, Ap, cp, rfl, hO, hb5⟩
    have hrp : RP = TakeOPost (if okOb (guessO x) && eqC (cellOf (guessO x)) x then (guessO x, 0) else (zOb, 4)) w := by rw [HRP.out, if_neg he]
    obtain ⟨hgl1, hgl2, hgl3, hgl4⟩ := guess_len x HPX.out
    generalize guessO x = o at hO hrp hgl1 hgl2 hgl3 hgl4
    have HRP2 := Lib.hid hrp
    have hob5 : ObAt W5 o Ar cr Ak ck Ap cp := hO.at_
    obtain ⟨W6, hW6⟩ : ∃ W6, W6 = W5.alloc (.cells (obV o Ar cr Ak ck Ap cp) 27) := ⟨_, rfl⟩
    have hn6 : Below W5.heap.size W5 W6 := by rw [hW6]; exact (Below.refl _ _).alloc (Nat.le_refl _) _
    have hg6 : W6.heap[W5.heap.size]? = some (.cells (obV o Ar cr Ak ck Ap cp) 27 (0, 0)) := by rw [hW6]; exact alloc_lastV _ _
    have hb36 : Below W3.heap.size W3 W6 := hb5.trans (hn6.mono hb5.size)
    have HZ6 := Lib.hid ((hb36.block _ (Array.getElem?_eq_some_iff.1 HZ3.out).1).trans HZ3.out)
    have HX6 := Lib.hid ((hb36.block _ (Array.getElem?_eq_some_iff.1 HG3.out).1).trans HG3.out)
    have HB6 := Lib.hid (HBW.out.trans (hb36.mono HBW.out.size))
    have HO6 := Lib.hid (hO.move (base' := w.heap.size + 1) (W := W6) (fun k hk hl => hn6.block k hl) HS3.out)
    have HOA := Lib.hid (hob5.below hn6)
    have HXC := Lib.hid (Kd.C_below HCX.out.2 hb36)
    have HG6 := Lib.hid hg6
    have HRT := Lib.hid (fun W (hW : Below W6.heap.size W6 W) => right7_calls o Ar cr Ak ck Ap cp W (HOA.out.below hW) (by omega))
    have HSH := Lib.hid (fun W (hW : Below W6.heap.size W6 W) => shape_calls o Ar cr Ak ck Ap cp W (HOA.out.below hW) hgl1 hgl2 hgl3 hgl4)
    have HCB := Lib.hid (fun W (hW : Below W6.heap.size W6 W) => box8 ((hW.block _ (Array.getElem?_eq_some_iff.1 HG6.out).1).trans HG6.out))
    have HCX6 := Lib.hid (fun W (hW : Below W6.heap.size W6 W) => (box4 ((hW.block _ (Array.getElem?_eq_some_iff.1 HX6.out).1).trans HX6.out)).1)
    unfold obV at hW6 HRT HSH HCB HG6
    have HW6 := Lib.hid hW6
    clear hob5 hn6 hg6 hb36 hO hb5 hrp hW6 hgl1 hgl2 hgl3 hgl4
    unfold obV
    cases hok : okOb o with
    | false =>
      have HF := Lib.hid (show RP = TakeOPost (zOb, 4) w by rw [HRP2.out]; simp only [hok, Bool.false_and]; rfl)
      obtain ⟨⟨z0, z1, z2, z3⟩, z4, z5, z6, z7⟩ := box8 HG6.out
      obtain ⟨⟨f0, f1, f2, f3⟩, f4, f5, f6, f7⟩ := frozen8 HZ6.out
      rw [hok] at HRT
      clear hok
      rw [HW6.out] at z0 z1 z2 z3 z4 z5 z6 z7
      go_wp2_with fail
      rw [← HW6.out]
      clear z0 z1 z2 z3 z4 z5 z6 z7
      refine region_quiet_lit (fun W => Below W6.heap.size W6 W) (by kernel_rfl) (by kernel_rfl) ((Below.refl _ _).drew) ?_
      refine BigFrame.wpQuiet_want (by go_simp) (fun K hK => quiet_val (v := .agg #[.int .i64 o.kind, .string o.label, .slice Ar o.rows.length cr, .slice Ak o.kids.length ck, .slice Ap o.parents.length cp, .int .i64 o.stamp, .string o.note, .string o.root]) (fun w' hw' => by obtain ⟨⟨z0, z1, z2, z3⟩, z4, z5, z6, z7⟩ := HCB.out w' hw'; go_simp) (hK _ ?_))
      clear hK K
      simp only [Act.put, List.setIfInBounds_toArray, List.set_cons_zero, List.set_cons_succ]
      refine BigFrame.wpQuiet_want (by go_simp) (fun K hK => quiet_call (v := .bool false) (f := 29) (args := #[.agg #[.int .i64 o.kind, .string o.label, .slice Ar o.rows.length cr, .slice Ak o.kids.length ck, .slice Ap o.parents.length cp, .int .i64 o.stamp, .string o.note, .string o.root]]) (fun w' hw' => by go_simp) (fun w' hw' => (HRT.out w' hw').mono fun e w2 h => ⟨h.1, hw'.trans (h.2.mono hw'.size)⟩) (hK _ ?_))
      clear hK K
      simp only [Act.put, List.setIfInBounds_toArray, List.set_cons_zero, List.set_cons_succ]
      refine BigFrame.wpQuiet_want (by go_simp) (fun K hK => quiet_val (v := .bool true) (fun w' hw' => by go_simp) (hK _ ?_))
      clear hK K
      simp only [Act.put, List.setIfInBounds_toArray, List.set_cons_zero, List.set_cons_succ]
      refine BigFrame.wpQuiet_want (by go_simp) (fun K hK => quiet_val (v := .bool true) (fun w' hw' => by go_simp) (hK _ ?_))
      clear hK K
      simp only [Act.put, List.setIfInBounds_toArray, List.set_cons_zero, List.set_cons_succ]
      refine BigFrame.wpQuiet_skip (by go_simp) ?_
      simp only [Act.put, List.setIfInBounds_toArray, List.set_cons_zero, List.set_cons_succ]
      refine BigFrame.wpQuiet_skip (by go_simp) ?_
      simp only [Act.put, List.setIfInBounds_toArray, List.set_cons_zero, List.set_cons_succ]
      refine BigFrame.wpQuiet_skip (by go_simp) ?_
      simp only [Act.put, List.setIfInBounds_toArray, List.set_cons_zero, List.set_cons_succ]
      refine BigFrame.wpQuiet_skip (by go_simp) ?_
      simp only [Act.put, List.setIfInBounds_toArray, List.set_cons_zero, List.set_cons_succ]
      refine BigFrame.wpQuiet_skip (by go_simp) ?_
      simp only [Act.put, List.setIfInBounds_toArray, List.set_cons_zero, List.set_cons_succ]
      refine BigFrame.wpQuiet_want (by go_simp) (fun K hK => quiet_val (v := .bool true) (fun w' hw' => by go_simp) (hK _ ?_))
      clear hK K
      simp only [Act.put, List.setIfInBounds_toArray, List.set_cons_zero, List.set_cons_succ]
      refine wpQuiet_nil ?_
      intro W2 hW2
      have HZW := Lib.hid ((hW2.block _ (Array.getElem?_eq_some_iff.1 HZ6.out).1).trans HZ6.out)
      have HB2 := Lib.hid (HB6.out.trans (hW2.mono HB6.out.size))
      clear hW2
      obtain ⟨⟨z0, z1, z2, z3⟩, z4, z5, z6, z7⟩ := box8 HZW.out
      obtain ⟨⟨f0, f1, f2, f3⟩, f4, f5, f6, f7⟩ := frozen8 HZW.out
      go_wp2_with fail
      refine HZERO.out (put8 _ w.heap.size (.int .i64 0) (.string (⟨#[]⟩ : ByteArray)) (.slice none 0 0) (.slice none 0 0) (.slice none 0 0) (.int .i64 0) (.string (⟨#[]⟩ : ByteArray)) (.string (⟨#[]⟩ : ByteArray))) (put8_below HB2.out (Nat.le_refl _) _ _ _ _ _ _ _ _) (put8_same HZW.out _ _ _ _ _ _ _ _) 4 _ rfl rfl HF.out
    | true =>
      obtain ⟨b, hb⟩ : ∃ b, eqC (cellOf o) x = b := ⟨_, rfl⟩
      have HF := Lib.hid (show RP = TakeOPost (if b then (o, 0) else (zOb, 4)) w by rw [HRP2.out]; simp only [hok, hb, Bool.true_and])
      have HB := Lib.hid hb
      obtain ⟨⟨z0, z1, z2, z3⟩, z4, z5, z6, z7⟩ := box8 HG6.out
      rw [hok] at HRT
      clear hok hb
      rw [HW6.out] at z0 z1 z2 z3 z4 z5 z6 z7
      go_wp2_with fail
      rw [← HW6.out]
      clear z0 z1 z2 z3 z4 z5 z6 z7
      refine' wp_region_factsW (sz := 30) (S := (fun _ W => Below W6.heap.size W6 W)) (fun _ W W' => Below W.heap.size W W') [eqM (.agg #[.int .i64 o.kind, .string o.label, .slice Ar o.rows.length cr, .slice Ak o.kids.length ck, .slice Ap o.parents.length cp, .int .i64 o.stamp, .string o.note, .string o.root]), eqM (.bool true), eqM (.bool false), eqM (.bool false), eqM (.agg #[.int .i64 o.kind, .string o.label, .slice Ar o.rows.length cr, .slice Ak o.kids.length ck, .slice Ap o.parents.length cp, .int .i64 o.stamp, .string o.note, .string o.root]), cellF W6.heap.size (cellOf o), eqM (.agg #[.int .i64 x.f0, .int .i64 x.f1, .string x.f2, .slice A3 x.f3.length c3]), eqM (.bool b), eqM (.bool (!b)), eqM (.bool (!b))] (by kernel_rfl) (by kernel_rfl) rfl (guardsM_of [(3, false)] (n := 10) rfl (by kernel_rfl) ⟨fun _ _ h => h, trivial⟩) ?hst ?h0 (Ord.stepsW_cons ?s0 (Ord.stepsW_cons ?s1 (Ord.stepsW_cons ?s2 (Ord.stepsW_cons ?s3 (Ord.stepsW_cons ?s4 (Ord.stepsW_cons ?s5 (Ord.stepsW_cons ?s6 (Ord.stepsW_cons ?s7 (Ord.stepsW_cons ?s8 (Ord.stepsW_cons ?s9 (Ord.stepsW_nil))))))))))) ?fin
      case s0 =>
        intro g W L hL hSW hd
        try simp only [Nat.zero_add, Nat.reduceAdd] at hd ⊢
        with_reducible refine OpGives.pre_reads [] 30 ?_ ?_ ?_
        · rfl
        · kernel_rfl
        simp only [List.map_cons, List.map_nil]
        obtain ⟨⟨z0, z1, z2, z3⟩, z4, z5, z6, z7⟩ := HCB.out W hSW; refine OpGives.val (v := .agg #[.int .i64 o.kind, .string o.label, .slice Ar o.rows.length cr, .slice Ak o.kids.length ck, .slice Ap o.parents.length cp, .int .i64 o.stamp, .string o.note, .string o.root]) (w' := W) ?_ ⟨Below.refl _ _, rfl, hSW⟩; go_simp
      case s1 =>
        intro g W L hL hSW hd
        try simp only [Nat.zero_add, Nat.reduceAdd] at hd ⊢
        have h0 : g 0 = _ := hd 0 (by decide) (by kernel_rfl)
        with_reducible refine OpGives.pre_reads [(18, 0)] 30 ?_ ?_ ?_
        · rfl
        · kernel_rfl
        simp only [List.map_cons, List.map_nil]
        rw [h0]; refine OpGives.call (f := 29) (args := #[.agg #[.int .i64 o.kind, .string o.label, .slice Ar o.rows.length cr, .slice Ak o.kids.length ck, .slice Ap o.parents.length cp, .int .i64 o.stamp, .string o.note, .string o.root]]) (w' := W) (by go_simp) ((HRT.out W hSW).mono fun e W' ⟨he, hb⟩ => ⟨_, he, hb, rfl, hSW.trans (hb.mono hSW.size)⟩)
      case s2 =>
        intro g W L hL hSW hd
        try simp only [Nat.zero_add, Nat.reduceAdd] at hd ⊢
        have h1 : g 1 = _ := hd 1 (by decide) (by kernel_rfl)
        with_reducible refine OpGives.pre_reads [(19, 1)] 30 ?_ ?_ ?_
        · rfl
        · kernel_rfl
        simp only [List.map_cons, List.map_nil]
        refine OpGives.val (w' := W) ?_ ⟨Below.refl _ _, rfl, hSW⟩
        go_simp
        try with_reducible rfl
      case s3 =>
        intro g W L hL hSW hd
        try simp only [Nat.zero_add, Nat.reduceAdd] at hd ⊢
        have h2 : g 2 = _ := hd 2 (by decide) (by kernel_rfl)
        with_reducible refine OpGives.pre_reads [(20, 2)] 30 ?_ ?_ ?_
        · rfl
        · kernel_rfl
        simp only [List.map_cons, List.map_nil]
        refine OpGives.val (w' := W) ?_ ⟨Below.refl _ _, rfl, hSW⟩
        go_simp
        try with_reducible rfl
      case s4 =>
        intro g W L hL hSW hd
        try simp only [Nat.zero_add, Nat.reduceAdd] at hd ⊢
        with_reducible refine OpGives.pre_reads [] 30 ?_ ?_ ?_
        · rfl
        · kernel_rfl
        simp only [List.map_cons, List.map_nil]
        obtain ⟨⟨z0, z1, z2, z3⟩, z4, z5, z6, z7⟩ := HCB.out W hSW; refine OpGives.val (v := .agg #[.int .i64 o.kind, .string o.label, .slice Ar o.rows.length cr, .slice Ak o.kids.length ck, .slice Ap o.parents.length cp, .int .i64 o.stamp, .string o.note, .string o.root]) (w' := W) ?_ ⟨Below.refl _ _, rfl, hSW⟩; go_simp
      case s5 =>
        intro g W L hL hSW hd
        try simp only [Nat.zero_add, Nat.reduceAdd] at hd ⊢
        have h4 : g 4 = _ := hd 4 (by decide) (by kernel_rfl)
        with_reducible refine OpGives.pre_reads [(22, 4)] 30 ?_ ?_ ?_
        · rfl
        · kernel_rfl
        simp only [List.map_cons, List.map_nil]
        rw [h4]; refine OpGives.call (f := 31) (args := #[.agg #[.int .i64 o.kind, .string o.label, .slice Ar o.rows.length cr, .slice Ak o.kids.length ck, .slice Ap o.parents.length cp, .int .i64 o.stamp, .string o.note, .string o.root]]) (w' := W) (by go_simp) ((HSH.out W hSW).mono fun e W' ⟨u, he, hf, hb⟩ => ⟨u, he, hb, cellF_lower hf hSW.size, hSW.trans (hb.mono hSW.size)⟩)
      case s6 =>
        intro g W L hL hSW hd
        try simp only [Nat.zero_add, Nat.reduceAdd] at hd ⊢
        with_reducible refine OpGives.pre_reads [] 30 ?_ ?_ ?_
        · rfl
        · kernel_rfl
        simp only [List.map_cons, List.map_nil]
        obtain ⟨z0, z1, z2, z3⟩ := HCX6.out W hSW; refine OpGives.val (v := .agg #[.int .i64 x.f0, .int .i64 x.f1, .string x.f2, .slice A3 x.f3.length c3]) (w' := W) ?_ ⟨Below.refl _ _, rfl, hSW⟩; go_simp
      case s7 =>
        intro g W L hL hSW hd
        try simp only [Nat.zero_add, Nat.reduceAdd] at hd ⊢
        have h5 := hd 5 (by decide) (by kernel_rfl)
        change (cellF W6.heap.size (cellOf o)) (g 5) W at h5
        have h6 : g 6 = _ := hd 6 (by decide) (by kernel_rfl)
        with_reducible refine OpGives.pre_reads [(23, 5), (24, 6)] 30 ?_ ?_ ?_
        · rfl
        · kernel_rfl
        simp only [List.map_cons, List.map_nil]
        rw [h6]; obtain ⟨v3, e5, hr5⟩ := h5; obtain ⟨A7, c7, rfl⟩ := R_slice hr5; rw [e5]; refine OpGives.call (f := 30) (args := #[.agg #[.int .i64 (cellOf o).f0, .int .i64 (cellOf o).f1, .string (cellOf o).f2, .slice A7 (cellOf o).f3.length c7], .agg #[.int .i64 x.f0, .int .i64 x.f1, .string x.f2, .slice A3 x.f3.length c3]]) (w' := W) (by go_simp) ((same4_calls _ (cellOf o) x (Nat.lt_succ_self _) A7 c7 A3 c3 W (Kd.R_reads' hr5).2.2 (Kd.C_below HXC.out hSW)).mono fun e W' ⟨he, hb⟩ => by rw [HB.out] at he; exact ⟨_, he, hb, rfl, hSW.trans (hb.mono hSW.size)⟩)
      case s8 =>
        intro g W L hL hSW hd
        try simp only [Nat.zero_add, Nat.reduceAdd] at hd ⊢
        have h7 : g 7 = _ := hd 7 (by decide) (by kernel_rfl)
        with_reducible refine OpGives.pre_reads [(25, 7)] 30 ?_ ?_ ?_
        · rfl
        · kernel_rfl
        simp only [List.map_cons, List.map_nil]
        refine OpGives.val (w' := W) ?_ ⟨Below.refl _ _, rfl, hSW⟩
        go_simp
        try with_reducible rfl
      case s9 =>
        intro g W L hL hSW hd
        try simp only [Nat.zero_add, Nat.reduceAdd] at hd ⊢
        have h3 : g 3 = _ := hd 3 (by decide) (by kernel_rfl)
        have h8 : g 8 = _ := hd 8 (by decide) (by kernel_rfl)
        with_reducible refine OpGives.pre_reads [(21, 3), (26, 8)] 30 ?_ ?_ ?_
        · rfl
        · kernel_rfl
        simp only [List.map_cons, List.map_nil]
        refine OpGives.val (w' := W) ?_ ⟨Below.refl _ _, rfl, hSW⟩
        go_simp
        try with_reducible rfl
      case hst =>
        refine fun i j v w w' _ h hR => st_of (R := fun W W' => Below W.heap.size W W') ?_ i v w w' h hR
        repeat' first
          | exact trivial
          | with_reducible refine StL.eq ?_
          | refine ⟨fun v w w' h hR => cellF_below h hR, ?_⟩
      case h0 => exact (Below.refl _ _).drew
      case fin =>
        intro v W L hL hSW hf
        have h9 : v 9 = _ := hf 9 (Nat.lt_of_lt_of_eq (by decide : 9 < 10) rfl)
        clear hf
        generalize hF : Ord.pre _ _ v _ = F'
        rw [Ord.pre_lit [some 18, some 19, some 20, some 21, some 22, some 23, some 24, some 25, some 26, some 27]
          (by kernel_rfl)] at hF
        simp only [Ord.puts, Nat.zero_add, Nat.reduceAdd] at hF
        subst hF
        rw [h9]
        have HZ7 := Lib.hid ((hSW.block _ (Array.getElem?_eq_some_iff.1 HZ6.out).1).trans HZ6.out)
        have HG7 := Lib.hid ((hSW.block _ (Array.getElem?_eq_some_iff.1 HG6.out).1).trans HG6.out)
        have HB7 := Lib.hid (HB6.out.trans (hSW.mono HB6.out.size))
        have HO7 := Lib.hid (HO6.out.move (W := W) (fun k hk hl => hSW.block k hl) (Nat.le_refl _))
        obtain ⟨⟨z0, z1, z2, z3⟩, z4, z5, z6, z7⟩ := box8 HZ7.out
        obtain ⟨⟨y0, y1, y2, y3⟩, y4, y5, y6, y7⟩ := box8 HG7.out
        obtain ⟨⟨f0, f1, f2, f3⟩, f4, f5, f6, f7⟩ := frozen8 HZ7.out
        clear hSW h9
        refine wpAny_done (by kernel_rfl) ?_ _
        try simp only [List.getElem_toArray, List.getElem_cons_succ, List.getElem_cons_zero]
        go_frame
        cases b with
        | false =>
          go_wp2_with fail
          refine HZERO.out (put8 W w.heap.size (.int .i64 0) (.string (⟨#[]⟩ : ByteArray)) (.slice none 0 0) (.slice none 0 0) (.slice none 0 0) (.int .i64 0) (.string (⟨#[]⟩ : ByteArray)) (.string (⟨#[]⟩ : ByteArray))) (put8_below HB7.out (Nat.le_refl _) _ _ _ _ _ _ _ _) (put8_same HZ7.out _ _ _ _ _ _ _ _) 4 _ rfl rfl HF.out
        | true =>
          go_wp2_with fail
          refine bodyPost_ret (results_ob ob_results5 _ _ w.heap.size _ _ _ _ _ _ _ _ _ rfl rfl (put8_same HZ7.out (.int .i64 o.kind) (.string o.label) (.slice Ar o.rows.length cr) (.slice Ak o.kids.length ck) (.slice Ap o.parents.length cp) (.int .i64 o.stamp) (.string o.note) (.string o.root))) rfl ?_
          rw [HF.out]
          exact ⟨Ar, cr, Ak, ck, Ap, cp, rfl, HO7.out.move (fun k hk _ => put8_far (by omega) _ _ _ _ _ _ _ _) (by omega), put8_below HB7.out (Nat.le_refl _) _ _ _ _ _ _ _ _⟩
end Go.Proofs.YtgjlchcfdbmmlaaDoor.PObjectTakes
namespace Go.Proofs.YtgjlchcfdbmmlaaDoor.PObjectTakes
open Go.RowKit Go.Proofs.YtgjlchcfdbmmlaaDoor.Ord Go.Proofs.YtgjlchcfdbmmlaaDoor.Obj Go.Proofs.YtgjlchcfdbmmlaaDoorW.PrintWords Go.Proofs.YtgjlchcfdbmmlaaDoorW.PrintLast Go.Proofs.YtgjlchcfdbmmlaaDoorW.PrintMore

theorem kidL_C {k : S60} (h : 0 ≤ k.f0 ∧ k.f0 ≤ 255) : kidL (kidC k) = some k := by
  obtain ⟨a, b⟩ := k
  have h1 : Int.tmod a 256 = a := Int.tmod_eq_of_lt h.1 (by have := h.2; simp only at this; omega)
  have h2 : IntKind.u8.wrap a = a := by rw [IntKind.wrap_u8]; have := h.1; have := h.2; simp only at *; omega
  show some (⟨IntKind.u8.wrap (Int.tmod a 256), b⟩ : S60) = _
  rw [h1, h2]
theorem kidsL_C : ∀ {l : List S60}, (∀ x ∈ l, 0 ≤ x.f0 ∧ x.f0 ≤ 255) → (l.map kidC).filterMap kidL = l
  | [], _ => rfl
  | x :: xs, h => by rw [List.map_cons, List.filterMap_cons, kidL_C (h x List.mem_cons_self)]; simp only; rw [kidsL_C (fun y hy => h y (List.mem_cons_of_mem _ hy))]
theorem dTakeRows_C {rs : List S55} (h : okRows rs = true) : dTakeRows (rowsC rs) = (rs, 0) := by
  unfold dTakeRows
  show (match rowsL (rs.map rowC) with | none => _ | some rs' => _) = _
  rw [rowsL_C (fun y hy => ((okRows_parts h).2 y hy).2)]
  simp only [h, eqC_self, Bool.and_self, if_true]
theorem guess_back {o : Ob} (h : okOb o = true) (hw : wfOb o) : guessO (cellOf o) = o := by
  unfold okOb at h
  unfold cellOf
  split at h
  · rename_i hk
    rw [if_pos hk]
    have p := okNode_parts h
    show (⟨1, o.label, (dTakeRows (rowsC o.rows)).1, (o.kids.map kidC).filterMap kidL, [], 0, ⟨#[]⟩, ⟨#[]⟩⟩ : Ob) = o
    rw [dTakeRows_C p.rows, kidsL_C hw.kids]
    obtain ⟨knd, lab, rws, kds, prs, stp, nte, rot⟩ := o
    have p1 := p.par; have p2 := p.stamp; have p3 := p.note; have p4 := p.root
    simp only at p1 p2 p3 p4 hk
    subst p1; subst p2; subst p3; subst p4; subst hk
    rfl
  · rename_i hk
    rw [if_neg hk]
    split at h
    · rename_i hk2
      have p := okCommit_parts h
      show (⟨2, ⟨#[]⟩, [], [], (o.parents.map textC).map (·.f2), o.stamp, o.note, o.root⟩ : Ob) = o
      rw [List.map_map, show ((fun x : S42 => x.f2) ∘ textC) = id from rfl, List.map_id]
      obtain ⟨knd, lab, rws, kds, prs, stp, nte, rot⟩ := o
      have p1 := p.rows; have p2 := p.kids; have p3 := p.label
      simp only at p1 p2 p3 hk2
      subst p1; subst p2; subst p3; subst hk2
      rfl
    · cases h
theorem rowsL_wf : ∀ {l : List S42} {rs : List S55}, rowsL l = some rs → wfL l → ∀ x ∈ rs, (-9223372036854775808 ≤ x.f0 ∧ x.f0 ≤ 9223372036854775807) ∧ (-9223372036854775808 ≤ x.f1 ∧ x.f1 ≤ 9223372036854775807) ∧ -9223372036854775808 ≤ x.f2.f1 ∧ x.f2.f1 ≤ 9223372036854775807
  | [], rs, h, _ => by rw [rowsL] at h; cases h; intro x hx; cases hx
  | y :: ys, rs, h, hw => by
    rw [rowsL] at h
    cases hy : rowL y with
    | none => rw [hy] at h; cases h
    | some r =>
      rw [hy] at h
      simp only [Option.map_eq_some_iff] at h
      obtain ⟨zs, hz, rfl⟩ := h
      intro x hx
      have hwy := wfL_mem hw (y := y) List.mem_cons_self
      rcases List.mem_cons.1 hx with rfl | hx
      · unfold rowL at hy
        have hyl := (wfS_parts hwy).2.2.2.2
        split at hy
        · rename_i a b c e
          rw [e] at hyl
          cases hy
          have ha := wfS_parts (wfL_mem hyl (y := a) (by simp))
          have hb := wfS_parts (wfL_mem hyl (y := b) (by simp))
          have hc := wfS_parts (wfL_mem hyl (y := c) (by simp))
          refine ⟨⟨ha.1, ha.2.1⟩, ⟨hb.1, hb.2.1⟩, ?_⟩
          unfold valL
          split
          · exact ⟨(by decide : (-9223372036854775808 : Int) ≤ 0), (by decide : (0 : Int) ≤ 9223372036854775807)⟩
          · exact ⟨hc.1, hc.2.1⟩
        · cases hy
      · exact rowsL_wf hz (by rw [wfL] at hw; exact hw.2) x hx
theorem dTakeRows_wf {x : S42} (hw : wfS x) : ∀ y ∈ (dTakeRows x).1, (-9223372036854775808 ≤ y.f0 ∧ y.f0 ≤ 9223372036854775807) ∧ (-9223372036854775808 ≤ y.f1 ∧ y.f1 ≤ 9223372036854775807) ∧ -9223372036854775808 ≤ y.f2.f1 ∧ y.f2.f1 ≤ 9223372036854775807 := by
  unfold dTakeRows
  cases h : rowsL x.f3 with
  | none => intro y hy; cases hy
  | some rs =>
    simp only
    split
    · exact rowsL_wf h (wfS_parts hw).2.2.2.2
    · intro y hy; cases hy
theorem guess_wf {x : S42} (hw : wfS x) : wfOb (guessO x) := by
  obtain ⟨k0, n0, s0, l⟩ := x
  have hwl := (wfS_parts hw).2.2.2.2
  have h0 : (-9223372036854775808 : Int) ≤ 0 ∧ (0 : Int) ≤ 9223372036854775807 := by decide
  unfold guessO
  match l, hwl with
  | [xa, b, r, k], hwl =>
    refine ⟨h0, dTakeRows_wf (wfL_mem hwl (by simp)), fun y hy => ?_⟩
    obtain ⟨z, _, hz⟩ := List.mem_filterMap.1 hy
    unfold kidL at hz
    split at hz
    · cases hz; exact kid_wrap _
    · cases hz
  | [xa, p, sx, n, t], hwl =>
    have h1 := wfS_parts (wfL_mem hwl (y := sx) (by simp))
    exact ⟨⟨h1.1, h1.2.1⟩, fun y hy => (by cases hy), fun y hy => (by cases hy)⟩
  | [], _ => exact ⟨h0, fun y hy => (by cases hy), fun y hy => (by cases hy)⟩
  | [a], _ => exact ⟨h0, fun y hy => (by cases hy), fun y hy => (by cases hy)⟩
  | [a, b], _ => exact ⟨h0, fun y hy => (by cases hy), fun y hy => (by cases hy)⟩
  | [a, b, d], _ => exact ⟨h0, fun y hy => (by cases hy), fun y hy => (by cases hy)⟩
  | a :: b :: d :: e :: f :: g :: l, _ => exact ⟨h0, fun y hy => (by cases hy), fun y hy => (by cases hy)⟩
theorem dTakeO_eq (s : ByteArray) (hs : s.size ≤ 140737488355328) : dTakeO s = takeO s := by
  unfold dTakeO takeO
  by_cases he : (takeR s).2 ≠ 0
  · rw [if_pos he, if_pos he]
  · rw [if_neg he, if_neg he]
    obtain ⟨hw, hok, _⟩ := take_got hs (by omega)
    generalize (takeR s).1 = x at hw hok
    unfold takeC
    have hno : ∀ o, objD x = some o → okOb o = true → (if okOb (guessO x) && eqC (cellOf (guessO x)) x then (guessO x, (0 : Int)) else (zOb, 4)) = (o, 0) := fun o ho hoo => by
      obtain ⟨e, hwo⟩ := obj_inv hok hw ho
      have hg := guess_back hoo hwo
      rw [e] at hg
      rw [hg, hoo, e, eqC_self]
      rfl
    have hyes : okOb (guessO x) = true → eqC (cellOf (guessO x)) x = true → objD x = some (guessO x) := fun h1 h2 => by
      have hb := obj_back h1 (guess_wf hw)
      rw [eqC_true h2] at hb
      exact hb
    cases ho : objD x with
    | some o =>
      cases hoo : okOb o with
      | true => simp only [hoo, if_true]; exact hno o ho hoo
      | false =>
        simp only [hoo]
        cases h1 : okOb (guessO x) with
        | false => rfl
        | true =>
          cases h2 : eqC (cellOf (guessO x)) x with
          | false => rfl
          | true =>
            have := hyes h1 h2
            rw [ho] at this
            cases this
            rw [hoo] at h1
            cases h1
    | none =>
      cases h1 : okOb (guessO x) with
      | false => rfl
      | true =>
        cases h2 : eqC (cellOf (guessO x)) x with
        | false => rfl
        | true =>
          have := hyes h1 h2
          rw [ho] at this
          cases this
end Go.Proofs.YtgjlchcfdbmmlaaDoor.PObjectTakes
namespace Go.Proofs.YtgjlchcfdbmmlaaDoor.PObjectTakes
open Go.RowKit Go.Proofs.YtgjlchcfdbmmlaaDoor.Ord Go.Proofs.YtgjlchcfdbmmlaaDoor.Obj Go.Proofs.YtgjlchcfdbmmlaaDoorW.PrintWords Go.Proofs.YtgjlchcfdbmmlaaDoorW.PrintLast Go.Proofs.YtgjlchcfdbmmlaaDoorW.PrintMore
attribute [local irreducible] OpGives

/-- The document's example. -/
def nodeZ : Ob := ⟨1, ⟨#[]⟩, [], [], [], 0, ⟨#[]⟩, ⟨#[]⟩⟩
def exB : ByteArray := ⟨#[65, 4, 17, 1, 48, 64, 64]⟩
theorem nodeZ_ok : okOb nodeZ = true := by decide
theorem nodeZ_wf : wfOb nodeZ := ⟨⟨by decide, by decide⟩, fun x hx => (by cases hx), fun x hx => (by cases hx)⟩
theorem bes_0 : bes 0 = [] := bes_zero
theorem bes_1 : bes 1 = [1] := by rw [bes_pos (by decide), show 1 / 256 = 0 from rfl, bes_0]; rfl
theorem bes_4 : bes 4 = [4] := by rw [bes_pos (by decide), show 4 / 256 = 0 from rfl, bes_0]; rfl
theorem nodeZ_bytes : bytesOf nodeZ = exB := by
  have h : encS (cellOf nodeZ) = [65, 4, 17, 1, 48, 64, 64] := by
    show encS ⟨3, 0, ⟨#[]⟩, [⟨1, 1, ⟨#[]⟩, []⟩, ⟨2, 0, ⟨#[]⟩, []⟩, ⟨3, 0, ⟨#[]⟩, []⟩, ⟨3, 0, ⟨#[]⟩, []⟩]⟩ = _
    have e0 : encS ⟨3, 0, ⟨#[]⟩, []⟩ = [64] := by rw [encS_list, encL]; unfold headB; rw [show ([] : List S42).length = 0 from rfl, bes_0]; rfl
    have e1 : encS ⟨1, 1, ⟨#[]⟩, []⟩ = [17, 1] := by rw [encS_num, if_neg (by decide)]; unfold headB; rw [show (1 : Int).toNat = 1 from rfl, bes_1]; rfl
    have e2 : encS ⟨2, 0, ⟨#[]⟩, []⟩ = [48] := by rw [encS_text]; unfold headB; rw [show (ByteArray.mk #[]).size = 0 from rfl, bes_0]; rfl
    rw [encS_list, encL, encL, encL, encL, encL, e0, e1, e2]
    unfold headB
    rw [show ([⟨1, 1, ⟨#[]⟩, []⟩, ⟨2, 0, ⟨#[]⟩, []⟩, ⟨3, 0, ⟨#[]⟩, []⟩, ⟨3, 0, ⟨#[]⟩, []⟩] : List S42).length = 4 from rfl, bes_4]
    rfl
  unfold bytesOf
  rw [h]; rfl
theorem exB_take : takeO exB = (nodeZ, 0) := by rw [← nodeZ_bytes]; exact takeO_back nodeZ_ok nodeZ_wf
set_option maxHeartbeats 8000000 in
set_option maxRecDepth 100000 in
theorem lives_calls (w : World) (hT : Lib.Utf8Tabs 0 1 w) : Calls Tryd.prog 7 #[] w fun e w' => e = .returned (.bool true) ∧ Below w.heap.size w w' := by
  have hzat : ∀ W, ObAt W nodeZ none 0 none 0 none 0 := fun W => ⟨Kd.C_nil _ _, Nat.le_refl _, Kd.C_nil _ _, Nat.le_refl _, Kd.C_nil _ _, Nat.le_refl _⟩
  have HP := Lib.hid (oput_calls nodeZ none 0 none 0 none 0 w (hzat w) nodeZ_wf hT)
  have hputs : putS nodeZ = exB := by unfold putS; rw [if_pos nodeZ_ok, nodeZ_bytes]
  have herr : errO (okOb nodeZ) = 0 := by rw [nodeZ_ok]; rfl
  rw [hputs, herr] at HP
  have hids : (idS nodeZ).size = 32 := by unfold idS; rw [if_pos nodeZ_ok, byL_size]; exact Sha.sum_len _
  have HTK := Lib.hid (fun W (h : Below w.heap.size w W) => otake_calls exB W (by decide) (fun h0 => take_parts (by decide) h0) (Utf8Tabs_below hT h))
  rw [exB_take] at HTK
  have HID := Lib.hid (fun W (h : Below w.heap.size w W) Ar cr Ak ck Ap cp (ho : ObAt W nodeZ Ar cr Ak ck Ap cp) => oid_calls nodeZ Ar cr Ak ck Ap cp W ho nodeZ_wf (Utf8Tabs_below hT h))
  rw [herr] at HID
  have HSM := Lib.hid (fun W Ar cr Ak ck Ap cp (ho : ObAt W nodeZ Ar cr Ak ck Ap cp) => same07_calls nodeZ Ar cr Ak ck Ap cp none 0 none 0 none 0 W ho (hzat W))
  generalize idS nodeZ = idv at hids HID
  have h32 : ((idv.size : Int) == 32) = true := by rw [hids]; rfl
  clear hputs herr hzat hT hids
  unfold obV nodeZ at HP HID HSM
  unfold exB at HP HTK
  unfold TakeOPost at HTK
  have hob := fun W (h : Below w.heap.size w W) => (HTK.out W h)
  unfold obV nodeZ at hob
  simp only at hob HP HID HSM
  have HTK2 := Lib.hid hob
  clear hob HTK
  go_enter Tryd.func7, Tryd.ntmps7
  go_wp2_with fail
  refine HP.out.mono ?_
  rintro e W1 ⟨rfl, hb1⟩
  have HB1 := Lib.hid hb1
  clear hb1 HP
  go_wp2_with fail
  refine (HTK2.out W1 HB1.out).mono ?_
  rintro e W2 ⟨Ar, cr, Ak, ck, Ap, cp, rfl, hO, hb2⟩
  have hb2w := HB1.out.trans (hb2.mono HB1.out.size)
  obtain ⟨W3, hW3⟩ : ∃ W3, W3 = W2.alloc (.cells #[.int .i64 1, .string (⟨#[]⟩ : ByteArray), .slice Ar 0 cr, .slice Ak 0 ck, .slice Ap 0 cp, .int .i64 0, .string (⟨#[]⟩ : ByteArray), .string (⟨#[]⟩ : ByteArray)] 27) := ⟨_, rfl⟩
  have hn3 : Below W2.heap.size W2 W3 := by rw [hW3]; exact (Below.refl _ _).alloc (Nat.le_refl _) _
  have hg3 : W3.heap[W2.heap.size]? = some (.cells #[.int .i64 1, .string (⟨#[]⟩ : ByteArray), .slice Ar 0 cr, .slice Ak 0 ck, .slice Ap 0 cp, .int .i64 0, .string (⟨#[]⟩ : ByteArray), .string (⟨#[]⟩ : ByteArray)] 27 (0, 0)) := by rw [hW3]; exact alloc_lastV _ _
  obtain ⟨⟨y0, y1, y2, y3⟩, y4, y5, y6, y7⟩ := box8 hg3
  have HB3 := Lib.hid (hb2w.trans (hn3.mono hb2w.size))
  have HO3 := Lib.hid (hO.at_.below hn3)
  have HG3 := Lib.hid hg3
  rw [hW3] at y0 y1 y2 y3 y4 y5 y6 y7
  have HW3 := Lib.hid hW3
  clear hb2 hb2w hn3 hg3 hO hW3
  go_wp2_with fail
  rw [← HW3.out]
  clear y0 y1 y2 y3 y4 y5 y6 y7
  refine (HID.out W3 HB3.out Ar cr Ak ck Ap cp HO3.out).mono ?_
  rintro e W4 ⟨rfl, hb4⟩
  have hg4 := (hb4.block _ (Array.getElem?_eq_some_iff.1 HG3.out).1).trans HG3.out
  obtain ⟨⟨y0, y1, y2, y3⟩, y4, y5, y6, y7⟩ := box8 hg4
  have HB4 := Lib.hid (HB3.out.trans (hb4.mono HB3.out.size))
  have HO4 := Lib.hid (HO3.out.below hb4)
  clear hb4 hg4
  go_wp2_with fail
  refine (HSM.out W4 Ar cr Ak ck Ap cp HO4.out).mono ?_
  rintro e W5 ⟨rfl, hb5⟩
  have hfin := HB4.out.trans (hb5.mono HB4.out.size)
  go_wp2_with fail
  go_ret
  exact ⟨rfl, hfin⟩
end Go.Proofs.YtgjlchcfdbmmlaaDoor.PObjectTakes
namespace Go.Proofs.YtgjlchcfdbmmlaaDoor.PObjectTakes
open Go.RowKit Go.Proofs.YtgjlchcfdbmmlaaDoor.Ord Go.Proofs.YtgjlchcfdbmmlaaDoor.Obj Go.Proofs.YtgjlchcfdbmmlaaDoorW.PrintWords Go.Proofs.YtgjlchcfdbmmlaaDoorW.PrintLast Go.Proofs.YtgjlchcfdbmmlaaDoorW.PrintMore
attribute [local irreducible] OpGives
attribute [local go_sem] rdl_const rdl_func rdl_global rdl_nil rdl_cons

set_option maxHeartbeats 8000000 in
set_option maxRecDepth 100000 in
theorem objectTakes_walk (s : ByteArray) (x : S42) (A : Option Addr) (c : Nat) (w : World) (hA : Kd.C k42 w A x.f3.length x.f3) (hc : x.f3.length ≤ c) (hw : wfW x) (hlen : lenW x) (hs : s.size ≤ 9223372036854775807) (hT : Lib.Utf8Tabs 0 1 w) :
    Calls Tryd.prog 4 #[.string s, .agg #[.int .i64 x.f0, .int .i64 x.f1, .string x.f2, .slice A x.f3.length c]] w fun e w' => e = .returned (.bool true) ∧ Below w.heap.size w w' := by
  obtain ⟨W1, hW1⟩ : ∃ W1, W1 = w.alloc (.cells #[.int .i64 x.f0, .int .i64 x.f1, .string x.f2, .slice A x.f3.length c] 42) := ⟨_, rfl⟩
  have hn1 : Below w.heap.size w W1 := by rw [hW1]; exact (Below.refl _ _).alloc (Nat.le_refl _) _
  have hg1 : W1.heap[w.heap.size]? = some (.cells #[.int .i64 x.f0, .int .i64 x.f1, .string x.f2, .slice A x.f3.length c] 42 (0, 0)) := by rw [hW1]; exact alloc_lastV _ _
  have hL : ∀ W, Below w.heap.size w W → Calls Tryd.prog 7 #[] W fun e w' => e = .returned (.bool true) ∧ Below W.heap.size W w' := fun W h => lives_calls W (Utf8Tabs_below hT h)
  have HL := Lib.hid hL
  have HT := Lib.hid hT
  have HA := Lib.hid hA
  have HC := Lib.hid (And.intro hc (And.intro hw hlen))
  have HN1 := Lib.hid hn1
  have HG1 := Lib.hid hg1
  obtain ⟨⟨b0, b1, b2, b3⟩, _⟩ := box4 hg1
  rw [hW1] at b0 b1 b2 b3
  have HW1 := Lib.hid hW1
  clear hn1 hg1 hW1 hL hT hA hc hw hlen
  by_cases h8 : 8000 < s.size
  · have h8' : decide ((8000 : Int) < (s.size : Int)) = true := decide_eq_true (by omega)
    go_enter Tryd.func4, Tryd.ntmps4
    go_wp2_with fail
    rw [← HW1.out]
    refine (HL.out W1 HN1.out).mono ?_
    rintro e W3 ⟨rfl, hb3⟩
    have HF := Lib.hid (HN1.out.trans (hb3.mono HN1.out.size))
    clear hb3
    go_wp2_with fail
    go_ret
    exact ⟨rfl, HF.out⟩
  have h8' : decide ((8000 : Int) < (s.size : Int)) = false := decide_eq_false (by omega)
  by_cases hcl : 100 < x.f3.length
  · have hcl' : decide ((100 : Int) < (x.f3.length : Int)) = true := decide_eq_true (by omega)
    go_enter Tryd.func4, Tryd.ntmps4
    go_wp2_with fail
    rw [← HW1.out]
    refine (HL.out W1 HN1.out).mono ?_
    rintro e W3 ⟨rfl, hb3⟩
    have HF := Lib.hid (HN1.out.trans (hb3.mono HN1.out.size))
    clear hb3
    go_wp2_with fail
    go_ret
    exact ⟨rfl, HF.out⟩
  have hcl' : decide ((100 : Int) < (x.f3.length : Int)) = false := decide_eq_false (by omega)
  have hs6 : s.size ≤ 1000000 := by omega
  have HCL := Lib.hid (show x.f3.length ≤ 1000000 by omega)
  have HTO := Lib.hid (fun W (h : Below w.heap.size w W) => otake_calls s W hs6 (fun h => take_parts hs6 h) (Utf8Tabs_below HT.out h))
  have HTD := Lib.hid (fun W (h : Below w.heap.size w W) => (show Calls Tryd.prog 14 #[.string s] W (TakeOPost (takeO s) W) by
    rw [← dTakeO_eq s (by omega)]; exact dtake_calls s W hs6 (fun h => take_parts hs6 h)))
  clear h8 hcl hs6
  generalize takeO s = RO at HTO HTD
  obtain ⟨⟨o0, o1, o2, o3, o4, o5, o6, o7⟩, er⟩ := RO
  go_enter Tryd.func4, Tryd.ntmps4
  go_wp2_with fail
  rw [← HW1.out]
  clear b0 b1 b2 b3 h8' hcl'
  refine (HTO.out W1 HN1.out).mono ?_
  rintro e W2 ⟨Ar, cr, Ak, ck, Ap, cp, rfl, hO, hb2⟩
  have hob := hO.at_
  unfold obV
  simp only at hob ⊢
  obtain ⟨W3, hW3⟩ : ∃ W3, W3 = W2.alloc (.cells #[.int .i64 o0, .string o1, .slice Ar o2.length cr, .slice Ak o3.length ck, .slice Ap o4.length cp, .int .i64 o5, .string o6, .string o7] 27) := ⟨_, rfl⟩
  have hn3 : Below W2.heap.size W2 W3 := by rw [hW3]; exact (Below.refl _ _).alloc (Nat.le_refl _) _
  have hg3 : W3.heap[W2.heap.size]? = some (.cells #[.int .i64 o0, .string o1, .slice Ar o2.length cr, .slice Ak o3.length ck, .slice Ap o4.length cp, .int .i64 o5, .string o6, .string o7] 27 (0, 0)) := by rw [hW3]; exact alloc_lastV _ _
  have hb13 : Below W1.heap.size W1 W3 := hb2.trans (hn3.mono hb2.size)
  have HB13 := Lib.hid hb13
  have HG3 := Lib.hid hg3
  have HO3 := Lib.hid (hob.below hn3)
  have HW3 := Lib.hid hW3
  clear hO hb2 hob hn3 hg3 hb13 hW3
  go_wp2_with fail
  rw [← HW3.out]
  refine (HTD.out W3 (HN1.out.trans (HB13.out.mono HN1.out.size))).mono ?_
  rintro e W4 ⟨Br, dr, Bk, dk, Bp, dp, rfl, hO, hb4⟩
  have hob := hO.at_
  unfold obV
  simp only at hob ⊢
  obtain ⟨W5, hW5⟩ : ∃ W5, W5 = W4.alloc (.cells #[.int .i64 o0, .string o1, .slice Br o2.length dr, .slice Bk o3.length dk, .slice Bp o4.length dp, .int .i64 o5, .string o6, .string o7] 27) := ⟨_, rfl⟩
  have hn5 : Below W4.heap.size W4 W5 := by rw [hW5]; exact (Below.refl _ _).alloc (Nat.le_refl _) _
  have hg5 : W5.heap[W4.heap.size]? = some (.cells #[.int .i64 o0, .string o1, .slice Br o2.length dr, .slice Bk o3.length dk, .slice Bp o4.length dp, .int .i64 o5, .string o6, .string o7] 27 (0, 0)) := by rw [hW5]; exact alloc_lastV _ _
  have hb35 : Below W3.heap.size W3 W5 := hb4.trans (hn5.mono hb4.size)
  have hg35 := (hb35.block _ (Array.getElem?_eq_some_iff.1 HG3.out).1).trans HG3.out
  have HSM := Lib.hid (same07_calls ⟨o0, o1, o2, o3, o4, o5, o6, o7⟩ Ar cr Ak ck Ap cp Br dr Bk dk Bp dp W5 (HO3.out.below hb35) (hob.below hn5))
  unfold obV at HSM
  simp only at HSM
  have HB15 := Lib.hid (HB13.out.trans (hb35.mono HB13.out.size))
  obtain ⟨⟨z0, z1, z2, z3⟩, z4, z5, z6, z7⟩ := box8 hg35
  obtain ⟨⟨y0, y1, y2, y3⟩, y4, y5, y6, y7⟩ := box8 hg5
  rw [hW5] at z0 z1 z2 z3 z4 z5 z6 z7 y0 y1 y2 y3 y4 y5 y6 y7
  have HW5 := Lib.hid hW5
  clear hO hob hn5 hg5 hb4 hb35 hg35 hW5
  go_wp2_with fail
  rw [← HW5.out]
  clear z0 z1 z2 z3 z4 z5 z6 z7 y0 y1 y2 y3 y4 y5 y6 y7
  refine HSM.out.mono ?_
  rintro e W6 ⟨rfl, hb6⟩
  have hee : (er != er) = false := by simp
  have HB16 := Lib.hid (HB15.out.trans (hb6.mono HB15.out.size))
  clear hb6
  go_wp2_with fail
  clear hee
  go_loopw [9] (fun i wr => ∃ (j : Nat), i = .int .i64 (j : Int) ∧ j ≤ x.f3.length ∧ Below W1.heap.size W1 wr) (fun i _ => x.f3.length - (intOf i).toNat)
  case atStart => exact ⟨0, rfl, Nat.zero_le _, HB16.out⟩
  case round =>
    obtain ⟨i, rfl, hi, hbr⟩ := hrel
    have HBR := Lib.hid hbr
    have HBW := Lib.hid (HN1.out.trans (hbr.mono HN1.out.size))
    have hgr := (hbr.block _ (Array.getElem?_eq_some_iff.1 HG1.out).1).trans HG1.out
    obtain ⟨⟨b0, b1, b2, b3⟩, _⟩ := box4 hgr
    by_cases hil : i < x.f3.length
    · obtain ⟨y, hy⟩ : ∃ y, x.f3[i]? = some y := ⟨_, List.getElem?_eq_getElem hil⟩
      obtain ⟨ad, A6, c6, rfl, -, -, -, k3, -, -, hbx⟩ := cell_at (Kd.C_below HA.out HBW.out) hy
      clear hy hbr hgr
      by_cases h10 : 10 < y.f3.length
      · have h10' : decide ((10 : Int) < (y.f3.length : Int)) = true := decide_eq_true (by omega)
        go_wp2_with fail
        refine (HL.out wr HBW.out).mono ?_
        rintro e W7 ⟨rfl, hb7⟩
        have HF := Lib.hid (HBW.out.trans (hb7.mono HBW.out.size))
        clear hb7
        go_wp2_with fail
        go_ret
        exact ⟨rfl, HF.out⟩
      · have h10' : decide ((10 : Int) < (y.f3.length : Int)) = false := decide_eq_false (by omega)
        have hml := HCL.out
        go_wp2_with fail
        go_roundw
        case rel => exact ⟨i + 1, by go_num, hil, HBR.out⟩
        case measure => simp [intOf]; omega
    · clear hbr hgr
      have HTR := Lib.hid (fun W (h : Below w.heap.size w W) => takerowsW_calls x A c W (Kd.C_below HA.out h) HC.out.1 HC.out.2.2 HCL.out HC.out.2.1 (Utf8Tabs_below HT.out h))
      have HTR2 := Lib.hid (fun W (h : Below w.heap.size w W) => (show Calls Tryd.prog 16 #[.agg #[.int .i64 x.f0, .int .i64 x.f1, .string x.f2, .slice A x.f3.length c]] W (TakeRowsPost (takeRowsR x) W) by
        rw [← dTakeRows_eq x HC.out.2.1]; exact dtakerows_calls x A c W (Kd.C_below HA.out h) HCL.out))
      generalize takeRowsR x = RR at HTR HTR2
      obtain ⟨rs, re⟩ := RR
      go_wp2_with fail
      refine (HTR.out wr HBW.out).mono ?_
      rintro e W7 ⟨A7, c7, rfl, hR7, hb7⟩
      simp only at hR7 ⊢
      have hb17 := HBR.out.trans (hb7.mono HBR.out.size)
      obtain ⟨⟨b0, b1, b2, b3⟩, _⟩ := box4 ((hb17.block _ (Array.getElem?_eq_some_iff.1 HG1.out).1).trans HG1.out)
      have HB17 := Lib.hid (HN1.out.trans (hb17.mono HN1.out.size))
      have HR7 := Lib.hid (Kd.R_reads' hR7).2.2
      clear hR7 hb7 hb17
      go_wp2_with fail
      refine (HTR2.out W7 HB17.out).mono ?_
      rintro e W8 ⟨A8, c8, rfl, hR8, hb8⟩
      simp only at hR8 ⊢
      have HB18 := Lib.hid (HB17.out.trans (hb8.mono HB17.out.size))
      have HS := Lib.hid (same02_self rs A7 c7 A8 c8 W8 (Kd.C_below HR7.out hb8) (Kd.R_reads' hR8).2.2)
      clear hR8 hb8 b0 b1 b2 b3
      go_wp2_with fail
      refine HS.out.mono ?_
      rintro e W9 ⟨rfl, hb9⟩
      have HB19 := Lib.hid (HB18.out.trans (hb9.mono HB18.out.size))
      clear hb9
      have hee : (re == re) = true := by simp
      go_wp2_with fail
      refine (HL.out W9 HB19.out).mono ?_
      rintro e W10 ⟨rfl, hb10⟩
      have HF := Lib.hid (HB19.out.trans (hb10.mono HB19.out.size))
      clear hb10
      go_wp2_with fail
      go_ret
      exact ⟨rfl, HF.out⟩
end Go.Proofs.YtgjlchcfdbmmlaaDoor.PObjectTakes
namespace Go.Proofs.YtgjlchcfdbmmlaaDoor.PObjectTakes
open Go.RowKit Go.Proofs.YtgjlchcfdbmmlaaDoorW.PrintWords Go.Proofs.YtgjlchcfdbmmlaaDoorW.PrintLast Go.Proofs.YtgjlchcfdbmmlaaDoorW.PrintMore
open Go.ChangeShapes Go.WideShapes

theorem choose_row {α : Type} (P : Nat → α → Prop) : ∀ n, (∀ i, i < n → ∃ v, P i v) → ∃ l : List α, l.length = n ∧ ∀ i v, l[i]? = some v → P i v
  | 0, _ => ⟨[], rfl, fun i v h => by simp at h⟩
  | n + 1, h => by
    obtain ⟨l, hl, hp⟩ := choose_row P n (fun i hi => h i (by omega))
    obtain ⟨v, hv⟩ := h n (by omega)
    refine ⟨l ++ [v], by simp [hl], fun i u hu => ?_⟩
    rcases Nat.lt_or_ge i l.length with hlt | hge
    · rw [List.getElem?_append_left hlt] at hu; exact hp i u hu
    · rw [List.getElem?_append_right hge] at hu
      have hi : i - l.length = 0 := by
        rcases Nat.eq_zero_or_pos (i - l.length) with e | e
        · exact e
        · rw [List.getElem?_eq_none (by simp; omega)] at hu; cases hu
      rw [hi] at hu
      simp at hu
      subst hu
      have : i = n := by omega
      rw [this]; exact hv
section
variable {H : Type} {enc : TypeId × Value → H} {W : World} {held : Bool}
/-- The cells of a cell. -/
def CellCs (W : World) (cs : List Value) (y : S42) : Prop := ∃ A c, cs = [.int .i64 y.f0, .int .i64 y.f1, .string y.f2, .slice A y.f3.length c] ∧ y.f3.length ≤ c ∧ Kd.C k42 W A y.f3.length y.f3 ∧ wfW y
def RowCs (W : World) (cs : List Value) (l : List S42) : Prop := ∃ A c, cs = [.slice A l.length c] ∧ l.length ≤ c ∧ Kd.C k42 W A l.length l ∧ wfWL l ∧ l.length ≤ 9223372036854775807
theorem cells_cell : Tryd.prog.cellsOf 42 = 4 := by kernel_rfl
theorem cells_one : Tryd.prog.cellsOf 3 = 1 ∧ Tryd.prog.cellsOf 9 = 1 ∧ Tryd.prog.cellsOf 40 = 1 := ⟨by kernel_rfl, by kernel_rfl, by kernel_rfl⟩
theorem bytes_cell : Tryd.prog.bytesOf 42 = 56 := by kernel_rfl
/-- What weighs no more than may be reached. -/
def Fits (t : TypeId) (d : DataW H) : Prop := ∀ n ∈ DataW.weights Tryd.prog t d, n ≤ reachBytes
theorem weightsAll_mem {e : TypeId} {d : DataW H} {n : Nat} (hn : n ∈ DataW.weights Tryd.prog e d) : ∀ {l : List (DataW H)}, d ∈ l → n ∈ DataW.weightsAll Tryd.prog e l
  | x :: r, h => by
    unfold DataW.weightsAll
    rcases List.mem_cons.1 h with rfl | h
    · exact List.mem_append_left _ hn
    · exact List.mem_append_right _ (weightsAll_mem hn h)
theorem cells_kind : Tryd.prog.cellsOf 39 = 1 := by kernel_rfl
theorem four_of {cs : List Value} (h : cs.length = 4) : ∃ a b c d, cs = [a, b, c, d] := by
  match cs, h with
  | [a, b, c, d], _ => exact ⟨a, b, c, d, rfl⟩
set_option maxRecDepth 100000 in
theorem open_cells : ∀ (fuel : Nat), (∀ cs (x : DataW H × List MemPlace), DataW.trod enc Tryd.prog W 0 (fun _ => true) held fuel 40 cs = some x → ∃ l, RowCs W cs l ∧ (Fits 40 x.1 → l.length ≤ 2513169434916 ∧ lenWL l)) ∧
    (∀ cs (x : DataW H × List MemPlace), DataW.trod enc Tryd.prog W 0 (fun _ => true) held fuel 42 cs = some x → ∃ y, CellCs W cs y ∧ (Fits 42 x.1 → lenW y))
  | 0 => ⟨fun cs x h => by simp [DataW.trod] at h, fun cs x h => by simp [DataW.trod] at h⟩
  | fuel + 1 => by
    obtain ⟨ih1, ih2⟩ := open_cells fuel
    refine ⟨fun cs x h => ?_, fun cs x h => ?_⟩
    · rcases DataW.trod_slice Tryd.underlying40 h with ⟨rfl, _⟩ | ⟨a, len, cap, elems, rest, n, hn, rfl, hxe, _, hl, hm, hlen, hel, _, _⟩
      · exact ⟨[], ⟨none, 0, rfl, Nat.le_refl _, Kd.C_nil _ _, by rw [wfWL]; trivial, by decide⟩, fun _ => ⟨by decide, by rw [lenWL]; trivial⟩⟩
      · injection hn with hn
        subst hn
        rw [cells_cell] at hel
        obtain ⟨l, hll, hlp⟩ := choose_row (fun i y => ∃ c, c.length = 4 ∧ (CellCs W c y ∧ ((∀ z, elems[i]? = some z → Fits 42 z.1) → lenW y)) ∧ ∀ j u, c[j]? = some u → W.cell? (a.add (i * 4 + j)) = some u) len (fun i hi => by
          have he := hel i hi
          rw [List.getElem?_eq_getElem (by omega)] at he
          obtain ⟨cs', hc, ht⟩ := Option.bind_eq_some_iff.1 he
          obtain ⟨y, hy⟩ := ih2 cs' _ ht
          obtain ⟨_, hcl, hat⟩ := World.cells?_some hc
          refine ⟨y, cs', hcl, ⟨hy.1, fun hf => hy.2 (hf _ (List.getElem?_eq_getElem (by omega)))⟩, fun j u hu => ?_⟩
          have hj : j < 4 := by rw [← hcl]; exact (List.getElem?_eq_some_iff.1 hu).1
          have := hat j hj
          rw [hu] at this
          rw [← this, Go.Deep.add_add])
        refine ⟨l, ⟨some a, cap, by rw [hll], by omega, ⟨rfl, by unfold maxLen at hm; omega, fun _ => ⟨a, rfl, fun j p hj => ?_⟩⟩, wfWL_of (fun y hy => ?_), by unfold maxLen at hm; omega⟩, fun hfit => ⟨?_, lenWL_of (fun y hy => ?_)⟩⟩
        · obtain ⟨c, hc4, ⟨⟨A', c', rfl, hcc, hC, hw⟩, _⟩, hcell⟩ := hlp j p hj
          exact ⟨_, hc4, k42_mk W p hcc hC, hcell⟩
        · obtain ⟨i, hi⟩ := List.getElem?_of_mem hy
          obtain ⟨c, _, ⟨⟨_, _, _, _, _, hw⟩, _⟩, _⟩ := hlp i y hi
          exact hw
        · have := hfit ((elems.length + rest.length) * 56) (by rw [hxe]; unfold DataW.weights; simp only [Tryd.underlying40, bytes_cell, List.length_map]; exact List.mem_cons_self)
          unfold reachBytes at this
          omega
        · obtain ⟨i, hi⟩ := List.getElem?_of_mem hy
          obtain ⟨c, _, ⟨_, hq⟩, _⟩ := hlp i y hi
          refine hq (fun z hz n hn => hfit n ?_)
          rw [hxe]; unfold DataW.weights; simp only [Tryd.underlying40]
          exact List.mem_cons_of_mem _ (List.mem_append_left _ (weightsAll_mem hn (List.mem_map.2 ⟨z, List.mem_of_getElem? hz, rfl⟩)))
    · obtain ⟨xs, n, hn, hxe, hlen, hxs, hf⟩ := DataW.trod_struct Tryd.underlying42 h
      injection hn with hn
      subst hn
      rw [cells_cell] at hlen
      obtain ⟨a, b, c, d, rfl⟩ := four_of hlen
      have hx : xs.length = 4 := hxs
      have g0 : DataW.trod enc Tryd.prog W 0 (fun _ => true) held fuel 39 [a] = xs[0]? := by have := hf 0 _ rfl; rw [show Tryd.prog.cellsOf (_ : Field).type = 1 from cells_kind] at this; exact this
      have g1 : DataW.trod enc Tryd.prog W 0 (fun _ => true) held fuel 3 [b] = xs[1]? := by have := hf 1 _ rfl; rw [show Tryd.prog.cellsOf (_ : Field).type = 1 from cells_one.1] at this; exact this
      have g2 : DataW.trod enc Tryd.prog W 0 (fun _ => true) held fuel 9 [c] = xs[2]? := by have := hf 2 _ rfl; rw [show Tryd.prog.cellsOf (_ : Field).type = 1 from cells_one.2.1] at this; exact this
      have g3 : DataW.trod enc Tryd.prog W 0 (fun _ => true) held fuel 40 [d] = xs[3]? := by have := hf 3 _ rfl; rw [show Tryd.prog.cellsOf (_ : Field).type = 1 from cells_one.2.2] at this; exact this
      rw [List.getElem?_eq_getElem (by omega)] at g0 g1 g2 g3
      obtain ⟨n0, e0, _, w0⟩ := DataW.trod_int Tryd.underlying39 g0
      obtain ⟨n1, e1, _, w1⟩ := DataW.trod_int Tryd.underlying3 g1
      obtain ⟨s2, e2, _, w2⟩ := DataW.trod_string Tryd.underlying9 g2
      obtain ⟨l, ⟨A, cp, e3, hlc, hC, hwl, hll⟩, hfl⟩ := ih1 _ _ g3
      simp at e0 e1 e2 e3
      subst e0; subst e1; subst e2; subst e3
      obtain ⟨i0, i1⟩ := wf_int w1
      refine ⟨⟨n0, n1, s2, l⟩, ⟨A, cp, rfl, hlc, hC, by rw [wfW]; exact ⟨i0, i1, by unfold maxLen at w2; omega, hll, hwl⟩⟩, fun hfit => ?_⟩
      rw [lenW]
      refine hfl (fun m hm => hfit m ?_)
      rw [hxe]; unfold DataW.weights; simp only [Tryd.underlying42]
      exact DataW.weights_mem_each (j := 3) rfl (by rw [List.getElem?_map, List.getElem?_eq_getElem (by omega)]; rfl) m hm
set_option maxRecDepth 100000 in
/-- An argument of the type of cells. -/
theorem open_cell {r : Reach} {b0 : Nat} {v : Value} {d : DataW H} {p : List MemPlace} (hv : Value.okWide Tryd.prog W r b0 42 v) (h : DataW.Trod enc Tryd.prog W 0 (fun _ => true) held 42 v d p) :
    ∃ (y : S42) (A : Option Addr) (c : Nat), v = .agg #[.int .i64 y.f0, .int .i64 y.f1, .string y.f2, .slice A y.f3.length c] ∧ y.f3.length ≤ c ∧ Kd.C k42 W A y.f3.length y.f3 ∧ wfW y ∧ (Fits 42 d → lenW y) := by
  obtain ⟨cs, rfl, hsz⟩ := okWide_struct Tryd.underlying42 hv
  obtain ⟨fuel, hf⟩ := h
  obtain ⟨y, ⟨A, c, e, hc, hC, hw⟩, hl⟩ := (open_cells fuel).2 _ _ hf
  refine ⟨y, A, c, ?_, hc, hC, hw, hl⟩
  have e' : cs.toList = [.int .i64 y.f0, .int .i64 y.f1, .string y.f2, .slice A y.f3.length c] := e
  rw [← Array.toArray_toList (xs := cs), e']
end
end Go.Proofs.YtgjlchcfdbmmlaaDoor.PObjectTakes
namespace Go.Proofs.YtgjlchcfdbmmlaaDoor.PObjectTakes
set_option maxRecDepth 100000 in
theorem tabs_takes {W : World} (hL : laidMet Tryd.prog Rows.objectTakesRow.laid W) : Lib.Utf8Tabs 0 1 W :=
  utf8Tabs_of_reads (ρ := Tryd.lays260_ren) Tryd.lays260 ⟨by kernel_rfl, by kernel_rfl, by kernel_rfl, by kernel_rfl, by kernel_rfl, by kernel_rfl, by kernel_rfl⟩ (Lib.laidMet.reads hL (.tail _ (.head _))) (Lib.laidMet.reads hL (.head _))
end Go.Proofs.YtgjlchcfdbmmlaaDoor.PObjectTakes
