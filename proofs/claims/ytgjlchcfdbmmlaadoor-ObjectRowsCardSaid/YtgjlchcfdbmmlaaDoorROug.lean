/- Texts of one proof, joined: TOU, TOV. -/
import Derived.Test.YtgjlchcfdbmmlaaDoorROrg
import Derived.Test.YtgjlchcfdbmmlaaDoorRTcg
import Derived.Test.YtgjlchcfdbmmlaaDoorRTzg
set_option linter.unusedSimpArgs false
set_option linter.unusedVariables false
/- object.Take and TakeRows walked. -/
namespace Go.Proofs.YtgjlchcfdbmmlaaDoor.PObjectTakes
open Go.RowKit Go.Proofs.YtgjlchcfdbmmlaaDoor.Ord Go.Proofs.YtgjlchcfdbmmlaaDoor.Obj Go.Proofs.YtgjlchcfdbmmlaaDoorW.PrintWords Go.Proofs.YtgjlchcfdbmmlaaDoorW.PrintLast Go.Proofs.YtgjlchcfdbmmlaaDoorW.PrintMore
set_option linter.unusedVariables false
set_option linter.unusedSimpArgs false
attribute [local irreducible] OpGives

/-- What Take answers, of a cell. -/
def takeC (x : S42) : Ob × Int := match objD x with
  | some o => if okOb o then (o, 0) else (zOb, 4)
  | none => (zOb, 4)
/-- What Take answers. -/
def takeO (s : ByteArray) : Ob × Int := if (takeR s).2 ≠ 0 then (zOb, ((takeR s).2 : Int)) else takeC (takeR s).1
def TakeOPost (r : Ob × Int) (w : World) (e : Ending) (w' : World) : Prop :=
  ∃ Ar cr Ak ck Ap cp, e = .returned (.tuple #[.agg (obV r.1 Ar cr Ak ck Ap cp), .int .i64 r.2]) ∧ ObR w' w.heap.size r.1 Ar cr Ak ck Ap cp ∧ Below w.heap.size w w'
theorem ob_results4 : (Tryd.f9).results = #[.cell 2 27, .tmp 3] := Tryd.results9
theorem parts_enc : ∀ (d : Nat) (x : S42), okS d x = true → parts x ≤ (encS x).length
  | 0, x, h => by rw [okS] at h; cases h
  | d + 1, x, h => by
    have hh : ∀ a b, 1 ≤ (headB a b).length := fun a b => by rw [headB_length]; omega
    obtain ⟨d', e, hx⟩ := ok_cases h
    have hd : d' = d := by omega
    subst hd
    rcases hx with ⟨n, rfl⟩ | ⟨t, rfl, ht⟩ | ⟨l, rfl, hl, hk⟩
    · rw [parts, partsL, encS_num]
      have h1 := hh 2 (-(n + 1)).toNat
      have h2 := hh 1 n.toNat
      have hz : (ByteArray.mk #[]).size = 0 := rfl
      rw [hz]
      split <;> omega
    · rw [parts, partsL, encS_text, List.length_append]
      have h1 := hh 3 t.size
      have h2 : t.data.toList.length = t.size := by rw [Lib.size_eq]
      omega
    · rw [parts, encS_list, List.length_append]
      have h1 := hh 4 l.length
      have hz : (ByteArray.mk #[]).size = 0 := rfl
      rw [hz]
      have hL : ∀ l' : List S42, (∀ y ∈ l', y ∈ l) → partsL l' ≤ (encL l').length := by
        intro l'
        induction l' with
        | nil => intro _; rw [partsL]; omega
        | cons y ys ih =>
          intro hy
          rw [partsL, encL, List.length_append]
          have := ih (fun z hz => hy z (List.mem_cons_of_mem _ hz))
          have := parts_enc d' y (hk y (hy y List.mem_cons_self))
          omega
      have := hL l (fun _ h => h)
      omega
set_option maxHeartbeats 16000000 in
set_option maxRecDepth 100000 in
theorem otake_calls (s : ByteArray) (w : World) (hs : s.size ≤ 1000000) (hp : (takeR s).2 = 0 → parts (takeR s).1 ≤ 1000000) (hT : Lib.Utf8Tabs 0 1 w) :
    Calls Tryd.prog 9 #[.string s] w (TakeOPost (takeO s) w) := by
  obtain ⟨W1, hW1⟩ : ∃ W1, W1 = w.alloc (.cells obZ 27) := ⟨_, rfl⟩
  have hn1 : Below w.heap.size w W1 := by rw [hW1]; exact (Below.refl _ _).alloc (Nat.le_refl _) _
  have hg1 : W1.heap[w.heap.size]? = some (.cells obZ 27 (0, 0)) := by rw [hW1]; exact alloc_lastV _ _
  have hs1 : W1.heap.size = w.heap.size + 1 := by rw [hW1]; simp
  have HTK := Lib.hid (Take_calls s W1 (by omega))
  obtain ⟨RP, hRP⟩ : ∃ RP : Ending → World → Prop, RP = TakeOPost (takeO s) w := ⟨_, rfl⟩
  rw [← hRP]
  unfold takeO at hRP
  obtain ⟨⟨x, f⟩, hx⟩ : ∃ y, y = takeR s := ⟨_, rfl⟩
  rw [← hx] at hRP hp HTK
  simp only at hRP hp
  have HRP := Lib.hid hRP
  have HN1 := Lib.hid hn1
  have HG1 := Lib.hid hg1
  have HS1 := Lib.hid hs1
  have HP := Lib.hid hp
  have HT := Lib.hid (Utf8Tabs_below hT hn1)
  unfold obZ at hW1
  have HW1 := Lib.hid hW1
  clear hn1 hg1 hs1 hW1 hRP hx hp hT
  have hzero : ∀ W, Below w.heap.size w W → W.heap[w.heap.size]? = some (.cells obZ 27 (0, 0)) → ∀ (er : Int) (tmps : Array Value), tmps.getD 2 undef = .pointer (some ⟨w.heap.size, 0, none⟩) → tmps.getD 3 undef = .int .i64 er → (RP = TakeOPost (zOb, er) w) →
      bodyPost Tryd.prog Tryd.f9 RP Exit.ret { tmps := tmps, defers := [] } W := fun W hW hg er tmps t2 t3 e => by
    refine bodyPost_ret (results_ob ob_results4 _ _ w.heap.size _ _ _ _ _ _ _ _ _ t2 t3 hg) rfl ?_
    rw [e]
    exact ⟨none, 0, none, 0, none, 0, rfl, ObR_zero _ _, hW⟩
  have HZERO := Lib.hid hzero
  clear hzero
  go_enter Tryd.func9, Tryd.ntmps9
  go_wp2_with fail
  rw [← HW1.out]
  refine HTK.out.mono ?_
  rintro e W2 ⟨v3, rfl, hR, hb2⟩
  simp only at hR ⊢
  obtain ⟨A3, c3, rfl⟩ := R_slice hR
  obtain ⟨W3, hW3⟩ : ∃ W3, W3 = W2.alloc (.cells #[.int .i64 x.f0, .int .i64 x.f1, .string x.f2, .slice A3 x.f3.length c3] 42) := ⟨_, rfl⟩
  have hn3 : Below W2.heap.size W2 W3 := by rw [hW3]; exact (Below.refl _ _).alloc (Nat.le_refl _) _
  have hg3 : W3.heap[W2.heap.size]? = some (.cells #[.int .i64 x.f0, .int .i64 x.f1, .string x.f2, .slice A3 x.f3.length c3] 42 (0, 0)) := by rw [hW3]; exact alloc_lastV _ _
  have hb13 : Below W1.heap.size W1 W3 := hb2.trans (hn3.mono hb2.size)
  have hz3 := (hb13.block _ (Array.getElem?_eq_some_iff.1 HG1.out).1).trans HG1.out
  unfold obZ at hz3
  have hbw : Below w.heap.size w W3 := HN1.out.trans (hb13.mono HN1.out.size)
  obtain ⟨_, hlc, hC⟩ := Kd.R_reads' (Kd.R_below hR hn3)
  obtain ⟨⟨z0, z1, z2, z3⟩, z4, z5, z6, z7⟩ := box8 hz3
  obtain ⟨⟨f0, f1, f2, f3⟩, f4, f5, f6, f7⟩ := frozen8 hz3
  obtain ⟨⟨y0, y1, y2, y3⟩, _⟩ := box4 hg3
  have HZ3 := Lib.hid hz3
  have HBW := Lib.hid hbw
  have HCX := Lib.hid (And.intro hlc hC)
  have HT3 := Lib.hid (Utf8Tabs_below HT.out hb13)
  have HS3 := Lib.hid (show W1.heap.size ≤ W3.heap.size from hb13.size)
  rw [hW3] at z0 z1 z2 z3 z4 z5 z6 z7 f0 f1 f2 f3 f4 f5 f6 f7 y0 y1 y2 y3
  have HW3 := Lib.hid hW3
  clear hR hb2 hn3 hg3 hb13 hz3 hbw hlc hC hW3
  by_cases he : f ≠ 0
  · have he' : ((f : Int) != 0) = true := by simp; omega
    go_wp2_with fail
    rw [← HW3.out]
    refine HZERO.out (put8 W3 w.heap.size (.int .i64 0) (.string (⟨#[]⟩ : ByteArray)) (.slice none 0 0) (.slice none 0 0) (.slice none 0 0) (.int .i64 0) (.string (⟨#[]⟩ : ByteArray)) (.string (⟨#[]⟩ : ByteArray))) (put8_below HBW.out (Nat.le_refl _) _ _ _ _ _ _ _ _) (put8_same HZ3.out _ _ _ _ _ _ _ _) (f : Int) _ rfl rfl ?_
    rw [HRP.out, if_pos he]
  · have he' : ((f : Int) != 0) = false := by simp; omega
    have hf0 : f = 0 := by omega
    have HPL := Lib.hid (plain_calls (SizeOf.sizeOf x + 1) x (Nat.lt_succ_self _) A3 c3 W3 HCX.out.2 HCX.out.1 (HP.out hf0))
    clear z0 z1 z2 z3 z4 z5 z6 z7 f0 f1 f2 f3 f4 f5 f6 f7
    go_wp2_with fail
    rw [← HW3.out]
    clear y0 y1 y2 y3
    refine HPL.out.mono ?_
    rintro e W4 ⟨u, rfl, hu, hb4⟩
    have hb4w := HBW.out.trans (hb4.mono HBW.out.size)
    have HOF := Lib.hid (objectOf_calls x u W4 (kA.K_of_M hu) (HP.out hf0) (Utf8Tabs_below HT3.out hb4))
    have HB4 := Lib.hid hb4w
    have HZ4 := Lib.hid ((hb4.block _ (Array.getElem?_eq_some_iff.1 HZ3.out).1).trans HZ3.out)
    have HT4 := Lib.hid (Utf8Tabs_below HT3.out hb4)
    have HS4 := Lib.hid (show w.heap.size + 1 ≤ W4.heap.size by have := HS3.out; have := hb4.size; have := HS1.out; omega)
    clear hb4 hb4w hu
    go_wp2_with fail
    refine HOF.out.mono ?_
    rintro e W5 ⟨Ar, cr, Ak, ck, Ap, cp, rfl, hO, hb5⟩
    have hob5 : ObAt W5 ((objD x).getD zOb) Ar cr Ak ck Ap cp := hO.at_
    obtain ⟨W6, hW6⟩ : ∃ W6, W6 = W5.alloc (.cells (obV ((objD x).getD zOb) Ar cr Ak ck Ap cp) 27) := ⟨_, rfl⟩
    have hn6 : Below W5.heap.size W5 W6 := by rw [hW6]; exact (Below.refl _ _).alloc (Nat.le_refl _) _
    have hg6 : W6.heap[W5.heap.size]? = some (.cells (obV ((objD x).getD zOb) Ar cr Ak ck Ap cp) 27 (0, 0)) := by rw [hW6]; exact alloc_lastV _ _
    have hb46 : Below W4.heap.size W4 W6 := hb5.trans (hn6.mono hb5.size)
    have HZ6 := Lib.hid ((hb46.block _ (Array.getElem?_eq_some_iff.1 HZ4.out).1).trans HZ4.out)
    have HB6 := Lib.hid (HB4.out.trans (hb46.mono HB4.out.size))
    have HCK := Lib.hid (ocheck_calls _ Ar cr Ak ck Ap cp W6 (hob5.below hn6) (Utf8Tabs_below HT4.out hb46))
    have HO6 := Lib.hid (hO.move (base' := w.heap.size + 1) (W := W6) (fun k hk hl => hn6.block k hl) HS4.out)
    have HG6 := Lib.hid hg6
    have hrp : RP = TakeOPost (takeC x) w := by rw [HRP.out, if_neg he]
    unfold takeC at hrp
    have HRP2 := Lib.hid hrp
    unfold obV at hW6 HCK HG6
    obtain ⟨⟨y0, y1, y2, y3⟩, y4, y5, y6, y7⟩ := box8 HG6.out
    obtain ⟨⟨z0, z1, z2, z3⟩, z4, z5, z6, z7⟩ := box8 HZ6.out
    obtain ⟨⟨f0, f1, f2, f3⟩, f4, f5, f6, f7⟩ := frozen8 HZ6.out
    rw [hW6] at y0 y1 y2 y3 y4 y5 y6 y7 z0 z1 z2 z3 z4 z5 z6 z7 f0 f1 f2 f3 f4 f5 f6 f7
    have HW6 := Lib.hid hW6
    clear hob5 hn6 hg6 hb46 hO hb5 hrp hW6
    unfold obV
    cases hod : objD x with
    | none =>
      rw [hod] at HRP2
      have HRP3 := Lib.hid (show RP = TakeOPost (zOb, 4) w from HRP2.out)
      simp only [hod, Option.getD_none] at HW6 HG6 HCK HO6 y0 y1 y2 y3 y4 y5 y6 y7 z0 z1 z2 z3 z4 z5 z6 z7 f0 f1 f2 f3 f4 f5 f6 f7 ⊢
      clear hod
      go_wp2_with fail
      rw [← HW6.out]
      refine HZERO.out (put8 W6 w.heap.size (.int .i64 0) (.string (⟨#[]⟩ : ByteArray)) (.slice none 0 0) (.slice none 0 0) (.slice none 0 0) (.int .i64 0) (.string (⟨#[]⟩ : ByteArray)) (.string (⟨#[]⟩ : ByteArray))) (put8_below HB6.out (Nat.le_refl _) _ _ _ _ _ _ _ _) (put8_same HZ6.out _ _ _ _ _ _ _ _) 4 _ rfl rfl HRP3.out
    | some o =>
      rw [hod] at HRP2
      simp only [hod, Option.getD_some, Option.isSome_some] at HW6 HG6 HCK HO6 y0 y1 y2 y3 y4 y5 y6 y7 z0 z1 z2 z3 z4 z5 z6 z7 f0 f1 f2 f3 f4 f5 f6 f7 ⊢
      clear hod
      generalize hrb : okOb o = rb at HCK HRP2
      have HRB := Lib.hid hrb
      obtain ⟨o0, o1, o2, o3, o4, o5, o6, o7⟩ := o
      simp only at HW6 HG6 HCK HO6 y0 y1 y2 y3 y4 y5 y6 y7 z0 z1 z2 z3 z4 z5 z6 z7 f0 f1 f2 f3 f4 f5 f6 f7 ⊢
      clear hrb
      cases rb with
      | false =>
        have HRP3 := Lib.hid (show RP = TakeOPost (zOb, 4) w from by rw [HRP2.out]; simp only [HRB.out]; rfl)
        go_wp2_with fail
        rw [← HW6.out]
        clear y0 y1 y2 y3 y4 y5 y6 y7 z0 z1 z2 z3 z4 z5 z6 z7 f0 f1 f2 f3 f4 f5 f6 f7
        refine HCK.out.mono ?_
        rintro e W7 ⟨rfl, hb7⟩
        have HZ7 := Lib.hid ((hb7.block _ (Array.getElem?_eq_some_iff.1 HZ6.out).1).trans HZ6.out)
        have HB7 := Lib.hid (HB6.out.trans (hb7.mono HB6.out.size))
        obtain ⟨⟨z0, z1, z2, z3⟩, z4, z5, z6, z7⟩ := box8 HZ7.out
        obtain ⟨⟨f0, f1, f2, f3⟩, f4, f5, f6, f7⟩ := frozen8 HZ7.out
        clear hb7
        go_wp2_with fail
        refine HZERO.out (put8 W7 w.heap.size (.int .i64 0) (.string (⟨#[]⟩ : ByteArray)) (.slice none 0 0) (.slice none 0 0) (.slice none 0 0) (.int .i64 0) (.string (⟨#[]⟩ : ByteArray)) (.string (⟨#[]⟩ : ByteArray))) (put8_below HB7.out (Nat.le_refl _) _ _ _ _ _ _ _ _) (put8_same HZ7.out _ _ _ _ _ _ _ _) 4 _ rfl rfl HRP3.out
      | true =>
        have HRP3 := Lib.hid (show RP = TakeOPost (⟨o0, o1, o2, o3, o4, o5, o6, o7⟩, 0) w from by rw [HRP2.out]; simp only [HRB.out]; rfl)
        go_wp2_with fail
        rw [← HW6.out]
        clear y0 y1 y2 y3 y4 y5 y6 y7 z0 z1 z2 z3 z4 z5 z6 z7 f0 f1 f2 f3 f4 f5 f6 f7
        refine HCK.out.mono ?_
        rintro e W7 ⟨rfl, hb7⟩
        have HZ7 := Lib.hid ((hb7.block _ (Array.getElem?_eq_some_iff.1 HZ6.out).1).trans HZ6.out)
        have HG7 := Lib.hid ((hb7.block _ (Array.getElem?_eq_some_iff.1 HG6.out).1).trans HG6.out)
        have HB7 := Lib.hid (HB6.out.trans (hb7.mono HB6.out.size))
        have HO7 := Lib.hid (HO6.out.move (W := W7) (fun k hk hl => hb7.block k hl) (Nat.le_refl _))
        obtain ⟨⟨z0, z1, z2, z3⟩, z4, z5, z6, z7⟩ := box8 HZ7.out
        obtain ⟨⟨y0, y1, y2, y3⟩, y4, y5, y6, y7⟩ := box8 HG7.out
        obtain ⟨⟨f0, f1, f2, f3⟩, f4, f5, f6, f7⟩ := frozen8 HZ7.out
        clear hb7
        go_wp2_with fail
        refine bodyPost_ret (results_ob ob_results4 _ _ w.heap.size _ _ _ _ _ _ _ _ _ rfl rfl (put8_same HZ7.out (.int .i64 o0) (.string o1) (.slice Ar o2.length cr) (.slice Ak o3.length ck) (.slice Ap o4.length cp) (.int .i64 o5) (.string o6) (.string o7))) rfl ?_
        rw [HRP3.out]
        exact ⟨Ar, cr, Ak, ck, Ap, cp, rfl, HO7.out.move (fun k hk _ => put8_far (by omega) _ _ _ _ _ _ _ _) (by omega), put8_below HB7.out (Nat.le_refl _) _ _ _ _ _ _ _ _⟩
/-- What TakeRows answers. -/
def takeRowsR (x : S42) : List S55 × Int := if (takenR x).2 && okS 16 x then ((takenR x).1, 0) else ([], 4)
def TakeRowsPost (r : List S55 × Int) (w : World) (e : Ending) (w' : World) : Prop := ∃ A c, e = .returned (.tuple #[.slice A r.1.length c, .int .i64 r.2]) ∧ rR w' w.heap.size (.slice A r.1.length c) r.1 ∧ Below w.heap.size w w'
set_option maxHeartbeats 8000000 in
set_option maxRecDepth 100000 in
theorem takerows_calls (x : S42) (A : Option Addr) (c : Nat) (w : World) (hC : Kd.C k42 w A x.f3.length x.f3) (hc : x.f3.length ≤ c) (hp : parts x ≤ 1000000) (hx : wfW x) (hT : Lib.Utf8Tabs 0 1 w) :
    Calls Tryd.prog 15 #[.agg #[.int .i64 x.f0, .int .i64 x.f1, .string x.f2, .slice A x.f3.length c]] w (TakeRowsPost (takeRowsR x) w) := by
  obtain ⟨W1, hW1⟩ : ∃ W1, W1 = w.alloc (.cells #[.int .i64 x.f0, .int .i64 x.f1, .string x.f2, .slice A x.f3.length c] 42) := ⟨_, rfl⟩
  have hn1 : Below w.heap.size w W1 := by rw [hW1]; exact (Below.refl _ _).alloc (Nat.le_refl _) _
  have hg1 : W1.heap[w.heap.size]? = some (.cells #[.int .i64 x.f0, .int .i64 x.f1, .string x.f2, .slice A x.f3.length c] 42 (0, 0)) := by rw [hW1]; exact alloc_lastV _ _
  obtain ⟨⟨y0, y1, y2, y3⟩, _⟩ := box4 hg1
  have HPL := Lib.hid (plain_calls (SizeOf.sizeOf x + 1) x (Nat.lt_succ_self _) A c W1 (Kd.C_below hC hn1) hc hp)
  obtain ⟨k1, hk1⟩ := Check_any x hx
  have HN1 := Lib.hid hn1
  have HG1 := Lib.hid hg1
  have HT := Lib.hid (Utf8Tabs_below hT hn1)
  have HC := Lib.hid (Kd.C_below hC hn1)
  have HPP := Lib.hid (Nat.le_trans (parts_len x) hp)
  obtain ⟨RP, hRP⟩ : ∃ RP : Ending → World → Prop, RP = TakeRowsPost (takeRowsR x) w := ⟨_, rfl⟩
  rw [← hRP]
  unfold takeRowsR at hRP
  have HRP := Lib.hid hRP
  rw [hW1] at y0 y1 y2 y3
  have HW1 := Lib.hid hW1
  clear hW1 hn1 hg1 hRP hT hC hp hx
  go_enter Tryd.func15, Tryd.ntmps15
  go_wp2_with fail
  rw [← HW1.out]
  clear y0 y1 y2 y3
  refine HPL.out.mono ?_
  rintro e W2 ⟨u, rfl, hu, hb2⟩
  have HTK := Lib.hid (taken_calls x u W2 (kA.K_of_M hu) HPP.out (Utf8Tabs_below HT.out hb2))
  have HB2 := Lib.hid hb2
  clear hu hb2
  go_wp2_with fail
  refine HTK.out.mono ?_
  rintro e W3 ⟨A3, c3, rfl, hR3, hb3⟩
  have hb13 := HB2.out.trans (hb3.mono HB2.out.size)
  have hg3 := (hb13.block _ (Array.getElem?_eq_some_iff.1 HG1.out).1).trans HG1.out
  have hbw := HN1.out.trans (hb13.mono HN1.out.size)
  have HCK := Lib.hid (cell_Check.calls k1 x.f0 x.f1 x.f2 A c x.f3 (checkR x) W3 (Kd.C_below HC.out hb13) hc hk1)
  obtain ⟨⟨y0, y1, y2, y3⟩, _⟩ := box4 hg3
  have HBW := Lib.hid hbw
  have HR3 := Lib.hid (Kd.R_lower hR3 (Nat.le_trans HN1.out.size HB2.out.size))
  clear hR3 hb3 hb13 hg3 hbw hk1
  unfold checkR at HCK
  generalize htk : (takenR x).1 = rs at HR3 HRP ⊢
  generalize htb : (takenR x).2 = rb at HRP ⊢
  generalize okS 16 x = ok at HCK HRP
  clear htk htb
  cases rb with
  | false =>
    have HRP2 := Lib.hid (show RP = TakeRowsPost ([], 4) w from HRP.out)
    go_wp2_with fail
    rw [HRP2.out]
    exact ⟨none, 0, rfl, Kd.R_nil _ _ _ _ _, HBW.out⟩
  | true =>
    cases ok with
    | false =>
      have HRP2 := Lib.hid (show RP = TakeRowsPost ([], 4) w from HRP.out)
      go_wp2_with fail
      refine HCK.out.mono ?_
      rintro e W4 ⟨rfl, hb4⟩
      have hfin := HBW.out.trans (hb4.mono HBW.out.size)
      go_wp2_with fail
      rw [HRP2.out]
      exact ⟨none, 0, rfl, Kd.R_nil _ _ _ _ _, hfin⟩
    | true =>
      have HRP2 := Lib.hid (show RP = TakeRowsPost (rs, 0) w from HRP.out)
      go_wp2_with fail
      refine HCK.out.mono ?_
      rintro e W4 ⟨rfl, hb4⟩
      have hfin := HBW.out.trans (hb4.mono HBW.out.size)
      have hR4 := Kd.R_below HR3.out hb4
      go_wp2_with fail
      rw [HRP2.out]
      exact ⟨A3, c3, rfl, hR4, hfin⟩
end Go.Proofs.YtgjlchcfdbmmlaaDoor.PObjectTakes
/- Plain laws: Take and Put undo each other. -/
namespace Go.Proofs.YtgjlchcfdbmmlaaDoor.PObjectTakes
open Go.RowKit Go.Proofs.YtgjlchcfdbmmlaaDoor.Ord Go.Proofs.YtgjlchcfdbmmlaaDoor.Obj Go.Proofs.YtgjlchcfdbmmlaaDoorW.PrintWords Go.Proofs.YtgjlchcfdbmmlaaDoorW.PrintLast Go.Proofs.YtgjlchcfdbmmlaaDoorW.PrintMore
set_option linter.unusedVariables false
set_option linter.unusedSimpArgs false

theorem isL_list (l : List S42) : isL (listC l) = true := by unfold isL listC; rfl
theorem rowD_C {x : S55} (h : okV x.f2 = true) : rowD (rowC x) = some x := by
  obtain ⟨_, hk, h1, h2⟩ := okV_size h
  unfold rowC rowD
  rw [if_pos (isL_list _)]
  obtain ⟨a, b, k, n, s⟩ := x
  simp only at hk h1 h2
  unfold listC valC
  simp only
  rcases hk with rfl | rfl
  · have := empty_str (h1 rfl)
    subst this
    rfl
  · have := h2 rfl
    subst this
    rfl
theorem rowsD_C : ∀ {l : List S55}, (∀ x ∈ l, okV x.f2 = true) → rowsD (l.map rowC) = some l
  | [], _ => rfl
  | x :: xs, h => by
    rw [List.map_cons, rowsD, rowD_C (h x List.mem_cons_self)]
    simp only
    rw [rowsD_C (fun y hy => h y (List.mem_cons_of_mem _ hy))]
    rfl
theorem takenR_C {l : List S55} (h : okRows l = true) : takenR (rowsC l) = (l, true) := by
  unfold takenR rowsC
  rw [if_pos (isL_list _)]
  show takenP (rowsD (l.map rowC)) = _
  rw [rowsD_C (fun x hx => ((okRows_parts h).2 x hx).2)]
  unfold takenP
  simp only [h]
theorem kidD_C {x : S60} (h : 0 ≤ x.f0 ∧ x.f0 ≤ 255) : kidD (kidC x) = some x := by
  unfold kidC kidD
  rw [if_pos (isL_list _)]
  show (if (1 : Int) = 1 ∧ (2 : Int) = 2 then (if 0 ≤ x.f0 ∧ x.f0 ≤ 255 then some (⟨x.f0, x.f1⟩ : S60) else none) else none) = some x
  rw [if_pos (by decide), if_pos h]
theorem kidsD_C : ∀ {l : List S60}, (∀ x ∈ l, 0 ≤ x.f0 ∧ x.f0 ≤ 255) → kidsD (l.map kidC) = some l
  | [], _ => rfl
  | x :: xs, h => by
    rw [List.map_cons, kidsD, kidD_C (h x List.mem_cons_self)]
    simp only
    rw [kidsD_C (fun y hy => h y (List.mem_cons_of_mem _ hy))]
    rfl
theorem strsD_C : ∀ (l : List ByteArray), strsD (l.map textC) = some l
  | [] => rfl
  | x :: xs => by
    rw [List.map_cons, strsD, if_pos (show (textC x).f0 = 2 from rfl), strsD_C xs]
    rfl
theorem obj_back {o : Ob} (h : okOb o = true) (hw : wfOb o) : objD (cellOf o) = some o := by
  unfold okOb at h
  unfold cellOf
  split at h
  · rename_i hk
    rw [if_pos hk]
    have p := okNode_parts h
    have e : objD (nodeC o) = nodeD (textC o.label) (rowsC o.rows) (listC (o.kids.map kidC)) := by
      unfold objD nodeC
      rw [if_pos (isL_list _)]
      show objL [numC 1, textC o.label, rowsC o.rows, listC (o.kids.map kidC)] = _
      rw [objL, if_pos ⟨rfl, rfl⟩]
    rw [e]
    unfold nodeD
    rw [takenR_C p.rows, if_pos ⟨rfl, rfl, isL_list _⟩]
    show (kidsD (o.kids.map kidC)).map _ = _
    rw [kidsD_C hw.kids]
    obtain ⟨knd, lab, rws, kds, prs, stp, nte, rot⟩ := o
    have p1 := p.par; have p2 := p.stamp; have p3 := p.note; have p4 := p.root
    simp only at p1 p2 p3 p4 hk
    subst p1; subst p2; subst p3; subst p4; subst hk
    rfl
  · rename_i hk
    rw [if_neg hk]
    split at h
    · rename_i hk2
      have p := okCommit_parts h
      have e : objD (commitC o) = commitD (listC (o.parents.map textC)) (numC o.stamp) (textC o.note) (textC o.root) := by
        unfold objD commitC
        rw [if_pos (isL_list _)]
        show objL [numC 2, listC (o.parents.map textC), numC o.stamp, textC o.note, textC o.root] = _
        rw [objL, if_pos ⟨rfl, rfl⟩]
      rw [e]
      unfold commitD
      rw [if_pos ⟨isL_list _, rfl, rfl, rfl⟩]
      show (strsD (o.parents.map textC)).map _ = _
      rw [strsD_C]
      obtain ⟨knd, lab, rws, kds, prs, stp, nte, rot⟩ := o
      have p1 := p.rows; have p2 := p.kids; have p3 := p.label
      simp only at p1 p2 p3 hk2
      subst p1; subst p2; subst p3; subst hk2
      rfl
    · cases h
/-! ### Bytes -/
theorem byL_data (l : List UInt8) : (byL l).data.toList = l := by simp [byL]
theorem byL_size (l : List UInt8) : (byL l).size = l.length := by rw [Lib.size_eq, byL_data]
theorem byL_of (s : ByteArray) : byL s.data.toList = s := by simp [byL]
theorem take_back {x : S42} (hok : okS 16 x = true) (hw : wfS x) : takeR (byL (encS x)) = (x, 0) := by
  have hcut : cut (byL (encS x)) 0 (encS x).length = encS x := by unfold cut; rw [byL_data, List.drop_zero, List.take_length]
  have h := placed_any (byL (encS x)) 16 0 x hok hw hcut (by rw [byL_size]; omega)
  have hn : nextR (byL (encS x)) 0 = (x, (encS x).length, 0) := by
    have := nextR_ok (s := byL (encS x)) (p := 0) (Nat.zero_le _) h
    rw [Nat.zero_add] at this
    exact this
  unfold takeR
  rw [hn]
  simp only
  rw [if_neg (by decide), if_neg (by rw [byL_size]; omega)]
theorem take_got {s : ByteArray} (hs : s.size ≤ 140737488355328) (h : (takeR s).2 = 0) : wfS (takeR s).1 ∧ okS 16 (takeR s).1 = true ∧ byL (encS (takeR s).1) = s := by
  unfold takeR at h ⊢
  by_cases hf : (nextR s 0).2.2 ≠ 0
  · rw [if_pos hf] at h; exact absurd h hf
  · rw [if_neg hf] at h ⊢
    by_cases hto : (nextR s 0).2.1 < s.size
    · rw [if_pos hto] at h; cases h
    · rw [if_neg hto] at h ⊢
      cases hc : cellD s 16 0 with
      | bad p' e =>
        have hb := nextR_bad (s := s) (p := 0) (Nat.zero_le _) hc
        have hb' : nextR s 0 = (z42, p', e) := hb
        rw [hb'] at hf
        have := cellD_bad s 16 0 p' e hc
        simp only at hf; omega
      | ok x q =>
        have g := cellD_got s hs 16 0 x q hc
        have hn : nextR s 0 = (x, q, 0) := nextR_ok (s := s) (p := 0) (Nat.zero_le _) hc
        rw [hn] at hto ⊢
        simp only at hto ⊢
        have hq : q = s.size := by have := g.le; omega
        refine ⟨g.wf, g.ok, ?_⟩
        have he := g.enc
        rw [hq, Nat.sub_zero] at he
        unfold cut at he
        rw [List.drop_zero, Lib.size_eq, List.take_length] at he
        rw [← he, byL_of]
theorem takeO_back {o : Ob} (h : okOb o = true) (hw : wfOb o) : takeO (bytesOf o) = (o, 0) := by
  have f := fine_ob h hw
  unfold takeO bytesOf
  rw [take_back f.ok f.wf]
  simp only
  rw [if_neg (by decide)]
  unfold takeC
  rw [obj_back h hw]
  simp only [h]
  rfl
theorem take_parts {s : ByteArray} (hs : s.size ≤ 1000000) (h : (takeR s).2 = 0) : parts (takeR s).1 ≤ 1000000 := by
  obtain ⟨hw, hk, hb⟩ := take_got (by omega) h
  have h1 := parts_enc 16 _ hk
  have h2 : (byL (encS (takeR s).1)).size = s.size := by rw [hb]
  rw [byL_size] at h2
  omega
end Go.Proofs.YtgjlchcfdbmmlaaDoor.PObjectTakes
