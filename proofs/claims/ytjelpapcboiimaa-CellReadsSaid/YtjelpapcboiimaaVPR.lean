/- CellReads, walked. -/
import Derived.Test.YtjelpapcboiimaaVS
import Derived.Test.YtjelpapcboiimaaVN
namespace Go.Proofs.Ytjelpapcboiimaa.PCellReads
open Go.RowKit Go.Proofs.Ytjelpapcboiimaa.Ord Go.Proofs.YtjelpapcboiimaaW.PrintWords Go.Proofs.YtjelpapcboiimaaW.PrintLast Go.Proofs.YtjelpapcboiimaaW.PrintMore
set_option linter.unusedVariables false
set_option linter.unusedSimpArgs false

theorem made_cell {W X : World} {cs : Array Value} {ty : TypeId} (h : X = W.alloc (.cells cs ty)) : Below W.heap.size W X ∧ X.heap[W.heap.size]? = some (.cells cs ty (0, 0)) ∧ X.heap.size = W.heap.size + 1 := by
  subst h
  exact ⟨(Below.refl _ _).alloc (Nat.le_refl _) _, heap_alloc_last _ _, by simp⟩
theorem keep_block {w W : World} {b : Nat} {o : Obj} (hb : Below w.heap.size w W) (h : w.heap[b]? = some o) : W.heap[b]? = some o := (hb.block b (Array.getElem?_eq_some_iff.1 h).1).trans h
set_option maxHeartbeats 8000000 in
set_option maxRecDepth 100000 in
theorem cellReads_walk (s : ByteArray) (a : Int) (w : World) (ha0 : -9223372036854775808 ≤ a) (ha1 : a ≤ 9223372036854775807) (hs0 : s.size ≤ 9223372036854775807) :
    Calls Try.prog 4 #[.string s, .int .i64 a] w fun e w' => e = .returned (.bool true) ∧ Below w.heap.size w w' := by
  by_cases hsz : 5000 < s.size
  · go_enter Try.func4, Try.ntmps4
    go_wp2_with fail
    refine (lives_calls w).mono ?_
    rintro e W3 ⟨rfl, hb3⟩
    go_wp2_with fail
    go_ret
    exact ⟨rfl, hb3⟩
  · have hs : s.size ≤ 140737488355328 := by omega
    obtain ⟨k1, hk1⟩ := (Next_ref s hs a).rounds
    obtain ⟨k2, hk2⟩ := (Take_ref s hs).rounds
    obtain ⟨k3, hk3⟩ := Same_self _ (next_wf s hs a)
    obtain ⟨k4, hk4⟩ := Same_self _ (take_wf s hs)
    have hn := fun W => Next_calls s a W hs ha0 ha1
    have hnr := fun W => fastiref04_Next.calls k1 s a _ _ _ _ _ _ W hk1
    have ht := fun W => Take_calls s W hs
    have htr := fun W => fastiref04_Take.calls k2 s _ _ _ _ _ W hk2
    have hs1 := fun W A c A' c' (hC : Kd.C k25 W A (nextR s a).1.f3.length (nextR s a).1.f3) (hc : (nextR s a).1.f3.length ≤ c) (hC' : Kd.C k25 W A' (nextR s a).1.f3.length (nextR s a).1.f3) (hc' : (nextR s a).1.f3.length ≤ c') => fastiref04_Same.calls k3 _ _ _ A c _ _ _ _ A' c' _ true W hC hc hC' hc' hk3
    have hs2 := fun W A c A' c' (hC : Kd.C k25 W A (takeR s).1.f3.length (takeR s).1.f3) (hc : (takeR s).1.f3.length ≤ c) (hC' : Kd.C k25 W A' (takeR s).1.f3.length (takeR s).1.f3) (hc' : (takeR s).1.f3.length ≤ c') => fastiref04_Same.calls k4 _ _ _ A c _ _ _ _ A' c' _ true W hC hc hC' hc' hk4
    unfold NextPost at hn
    unfold TakePost at ht
    clear hk1 hk2 hk3 hk4
    generalize nextR s a = nr at hn hnr hs1
    generalize takeR s = tr at ht htr hs2
    obtain ⟨⟨n0, n1, n2, n3⟩, nt, ne⟩ := nr
    obtain ⟨⟨t0, t1, t2, t3⟩, te⟩ := tr
    simp only at hn hnr ht htr hs1 hs2
    have HN := Lib.hid hn
    have HNR := Lib.hid hnr
    have HT := Lib.hid ht
    have HTR := Lib.hid htr
    have HS1 := Lib.hid hs1
    have HS2 := Lib.hid hs2
    clear hn hnr ht htr hs1 hs2
    go_enter Try.func4, Try.ntmps4
    go_wp2_with fail
    refine (HN.out w).mono ?_
    rintro e W1 ⟨v, rfl, hR, hb⟩
    obtain ⟨A1, c1, rfl⟩ := R_slice hR
    obtain ⟨hC1, hc1⟩ := R_C hR
    obtain ⟨X1, hX1⟩ : ∃ X1, X1 = W1.alloc (.cells #[.int .i64 n0, .int .i64 n1, .string n2, .slice A1 n3.length c1] 25) := ⟨_, rfl⟩
    obtain ⟨B1, G1, E1⟩ := made_cell hX1
    have C1 := Kd.C_below hC1 B1
    have B1 := hb.trans (B1.mono hb.size)
    have HX1 := Lib.hid hX1
    have HB1 := Lib.hid B1
    have HG1 := Lib.hid G1
    have HC1 := Lib.hid C1
    clear hb hR hC1 B1 G1 E1 C1 hX1
    go_wp2_with fail
    rw [← HX1.out]
    refine (HNR.out X1).mono ?_
    rintro e W2 ⟨v, rfl, hR, hb⟩
    obtain ⟨A2, c2, rfl⟩ := R_slice hR
    obtain ⟨hC2, hc2⟩ := R_C hR
    obtain ⟨X2, hX2⟩ : ∃ X2, X2 = W2.alloc (.cells #[.int .i64 n0, .int .i64 n1, .string n2, .slice A2 n3.length c2] 25) := ⟨_, rfl⟩
    obtain ⟨B2, G2, E2⟩ := made_cell hX2
    have C2 := Kd.C_below hC2 B2
    have B12 := hb.trans (B2.mono hb.size)
    have HX2 := Lib.hid hX2
    have HG12 := Lib.hid (keep_block B12 HG1.out)
    have HC12 := Lib.hid (Kd.C_below HC1.out B12)
    have HB2 := Lib.hid (HB1.out.trans (B12.mono HB1.out.size))
    have HG2 := Lib.hid G2
    have HC2 := Lib.hid C2
    clear hb hR hC2 B2 G2 E2 C2 hX2 B12
    go_wp2_with fail
    rw [← HX2.out]
    refine (HT.out X2).mono ?_
    rintro e W3 ⟨v, rfl, hR, hb⟩
    obtain ⟨A3, c3, rfl⟩ := R_slice hR
    obtain ⟨hC3, hc3⟩ := R_C hR
    obtain ⟨X3, hX3⟩ : ∃ X3, X3 = W3.alloc (.cells #[.int .i64 t0, .int .i64 t1, .string t2, .slice A3 t3.length c3] 25) := ⟨_, rfl⟩
    obtain ⟨B3, G3, E3⟩ := made_cell hX3
    have C3 := Kd.C_below hC3 B3
    have B23 := hb.trans (B3.mono hb.size)
    have HX3 := Lib.hid hX3
    have HG13 := Lib.hid (keep_block B23 HG12.out)
    have HC13 := Lib.hid (Kd.C_below HC12.out B23)
    have HG23 := Lib.hid (keep_block B23 HG2.out)
    have HC23 := Lib.hid (Kd.C_below HC2.out B23)
    have HB3 := Lib.hid (HB2.out.trans (B23.mono HB2.out.size))
    have HG3 := Lib.hid G3
    have HC3 := Lib.hid C3
    clear hb hR hC3 B3 G3 E3 C3 hX3 B23
    go_wp2_with fail
    rw [← HX3.out]
    refine (HTR.out X3).mono ?_
    rintro e W4 ⟨v, rfl, hR, hb⟩
    obtain ⟨A4, c4, rfl⟩ := R_slice hR
    obtain ⟨hC4, hc4⟩ := R_C hR
    obtain ⟨X4, hX4⟩ : ∃ X4, X4 = W4.alloc (.cells #[.int .i64 t0, .int .i64 t1, .string t2, .slice A4 t3.length c4] 25) := ⟨_, rfl⟩
    obtain ⟨B4, G4, E4⟩ := made_cell hX4
    have C4 := Kd.C_below hC4 B4
    have B34 := hb.trans (B4.mono hb.size)
    have HX4 := Lib.hid hX4
    have HG14 := Lib.hid (keep_block B34 HG13.out)
    have HC14 := Lib.hid (Kd.C_below HC13.out B34)
    have HG24 := Lib.hid (keep_block B34 HG23.out)
    have HC24 := Lib.hid (Kd.C_below HC23.out B34)
    have HG34 := Lib.hid (keep_block B34 HG3.out)
    have HC34 := Lib.hid (Kd.C_below HC3.out B34)
    have HB4 := Lib.hid (HB3.out.trans (B34.mono HB3.out.size))
    have HG4 := Lib.hid G4
    have HC4 := Lib.hid C4
    have z10 : X4.cell? ⟨W1.heap.size, 0, none⟩ = some (.int .i64 n0) := by rw [Lib.cell_of_heap HG14.out]; rfl
    have z11 : X4.cell? ⟨W1.heap.size, 1, none⟩ = some (.int .i64 n1) := by rw [Lib.cell_of_heap HG14.out]; rfl
    have z12 : X4.cell? ⟨W1.heap.size, 2, none⟩ = some (.string n2) := by rw [Lib.cell_of_heap HG14.out]; rfl
    have z13 : X4.cell? ⟨W1.heap.size, 3, none⟩ = some (.slice A1 n3.length c1) := by rw [Lib.cell_of_heap HG14.out]; rfl
    have z20 : X4.cell? ⟨W2.heap.size, 0, none⟩ = some (.int .i64 n0) := by rw [Lib.cell_of_heap HG24.out]; rfl
    have z21 : X4.cell? ⟨W2.heap.size, 1, none⟩ = some (.int .i64 n1) := by rw [Lib.cell_of_heap HG24.out]; rfl
    have z22 : X4.cell? ⟨W2.heap.size, 2, none⟩ = some (.string n2) := by rw [Lib.cell_of_heap HG24.out]; rfl
    have z23 : X4.cell? ⟨W2.heap.size, 3, none⟩ = some (.slice A2 n3.length c2) := by rw [Lib.cell_of_heap HG24.out]; rfl
    rw [HX4.out] at z10 z11 z12 z13 z20 z21 z22 z23
    clear hb hR hC4 B4 G4 E4 C4 hX4 B34
    go_wp2_with fail
    rw [← HX4.out]
    clear z10 z11 z12 z13 z20 z21 z22 z23
    refine (HS1.out X4 A1 c1 A2 c2 HC14.out hc1 HC24.out hc2).mono ?_
    rintro e W5 ⟨rfl, hb⟩
    have HG35 := Lib.hid (keep_block hb HG34.out)
    have HC35 := Lib.hid (Kd.C_below HC34.out hb)
    have HG45 := Lib.hid (keep_block hb HG4.out)
    have HC45 := Lib.hid (Kd.C_below HC4.out hb)
    have HB5 := Lib.hid (HB4.out.trans (hb.mono HB4.out.size))
    have z10 : W5.cell? ⟨W3.heap.size, 0, none⟩ = some (.int .i64 t0) := by rw [Lib.cell_of_heap HG35.out]; rfl
    have z11 : W5.cell? ⟨W3.heap.size, 1, none⟩ = some (.int .i64 t1) := by rw [Lib.cell_of_heap HG35.out]; rfl
    have z12 : W5.cell? ⟨W3.heap.size, 2, none⟩ = some (.string t2) := by rw [Lib.cell_of_heap HG35.out]; rfl
    have z13 : W5.cell? ⟨W3.heap.size, 3, none⟩ = some (.slice A3 t3.length c3) := by rw [Lib.cell_of_heap HG35.out]; rfl
    have z20 : W5.cell? ⟨W4.heap.size, 0, none⟩ = some (.int .i64 t0) := by rw [Lib.cell_of_heap HG45.out]; rfl
    have z21 : W5.cell? ⟨W4.heap.size, 1, none⟩ = some (.int .i64 t1) := by rw [Lib.cell_of_heap HG45.out]; rfl
    have z22 : W5.cell? ⟨W4.heap.size, 2, none⟩ = some (.string t2) := by rw [Lib.cell_of_heap HG45.out]; rfl
    have z23 : W5.cell? ⟨W4.heap.size, 3, none⟩ = some (.slice A4 t3.length c4) := by rw [Lib.cell_of_heap HG45.out]; rfl
    clear hb
    go_wp2_with fail
    clear z10 z11 z12 z13 z20 z21 z22 z23
    refine (HS2.out W5 A3 c3 A4 c4 HC35.out hc3 HC45.out hc4).mono ?_
    rintro e W6 ⟨rfl, hb⟩
    have HB6 := Lib.hid (HB5.out.trans (hb.mono HB5.out.size))
    clear hb
    go_wp2_with fail
    refine (lives_calls W6).mono ?_
    rintro e W7 ⟨rfl, hb⟩
    have HB7 := Lib.hid (HB6.out.trans (hb.mono HB6.out.size))
    clear hb
    go_wp2_with fail
    go_ret
    exact ⟨rfl, HB7.out⟩
end Go.Proofs.Ytjelpapcboiimaa.PCellReads
