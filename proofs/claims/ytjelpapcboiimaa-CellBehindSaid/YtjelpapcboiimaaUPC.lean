/- CellBehind, walked. -/
import Derived.Test.YtjelpapcboiimaaUPB
namespace Go.Proofs.Ytjelpapcboiimaa.PCellPuts
open Go.RowKit Go.Proofs.Ytjelpapcboiimaa.Ord Go.Proofs.YtjelpapcboiimaaW.PrintWords Go.Proofs.YtjelpapcboiimaaW.PrintLast Go.Proofs.YtjelpapcboiimaaW.PrintMore
set_option linter.unusedVariables false
set_option linter.unusedSimpArgs false

theorem append_data (a b : ByteArray) : (a ++ b).data.toList = a.data.toList ++ b.data.toList := by rw [ByteArray.data_append, Array.toList_append]
theorem append_size (a b : ByteArray) : (a ++ b).size = a.size + b.size := ByteArray.size_append
theorem cut_mid (a b : ByteArray) (l : List UInt8) : cut (a ++ bytesOf' l ++ b) a.size l.length = l := by
  unfold cut
  rw [append_data, append_data, bytes_data, Lib.size_eq, List.append_assoc, List.drop_left, List.take_left]
theorem next_mid {x : S25} (hok : okS 16 x = true) (hw : wfS x) (a b : ByteArray) : nextR (a ++ bytesOf' (encS x) ++ b) (a.size : Int) = (x, a.size + (encS x).length, 0) := by
  have hs : (a ++ bytesOf' (encS x) ++ b).size = a.size + (encS x).length + b.size := by rw [append_size, append_size, bytes_size]
  exact nextR_ok (by omega) (placed_any _ 16 a.size x hok hw (cut_mid a b _) (by omega))
theorem extract_front (l : List UInt8) (k : Nat) : ((bytesOf' l).extract 0 k).data.toList = l.take k := by rw [Lib.extract_data, bytes_data, List.drop_zero, Nat.sub_zero]
theorem next_short {x : S25} (hok : okS 16 x = true) (hw : wfS x) {k : Nat} (hk : k < (encS x).length) : nextR ((bytesOf' (encS x)).extract 0 k) 0 = (z25, k, 3) := by
  have hsz : ((bytesOf' (encS x)).extract 0 k).size = k := by rw [Lib.size_eq, extract_front, List.length_take]; omega
  have h := short_any ((bytesOf' (encS x)).extract 0 k) 16 0 x hok hw (Nat.zero_le _) (by omega) (by
    rw [hsz]; unfold cut; rw [extract_front, Nat.sub_zero, List.drop_zero, List.take_take, Nat.min_self])
  have := nextR_bad (s := (bytesOf' (encS x)).extract 0 k) (p := 0) (Nat.zero_le _) h
  rw [hsz] at this
  exact this
theorem take_mid {x : S25} (hok : okS 16 x = true) (hw : wfS x) (b : ByteArray) : takeR (bytesOf' (encS x) ++ b) = if b.size = 0 then (x, 0) else (z25, 4) := by
  have hc : cut (bytesOf' (encS x) ++ b) 0 (encS x).length = encS x := by unfold cut; rw [append_data, bytes_data, List.drop_zero, List.take_left]
  have hs : (bytesOf' (encS x) ++ b).size = (encS x).length + b.size := by rw [append_size, bytes_size]
  have h := placed_any _ 16 0 x hok hw hc (by omega)
  have hn := nextR_ok (s := bytesOf' (encS x) ++ b) (p := 0) (Nat.zero_le _) h
  rw [Nat.zero_add] at hn
  have hn' : nextR (bytesOf' (encS x) ++ b) 0 = (x, (encS x).length, 0) := hn
  unfold takeR
  rw [hn']
  simp only
  rw [if_neg (by decide), hs]
  by_cases hb : b.size = 0
  · rw [if_pos hb, if_neg (by omega)]
  · rw [if_neg hb, if_pos (by omega)]
set_option maxHeartbeats 8000000 in
set_option maxRecDepth 100000 in
theorem cellBehind_walk (x : S25) (A : Option Addr) (c : Nat) (ah be : ByteArray) (ct : Int) (w : World) (hA : Kd.C k25 w A x.f3.length x.f3) (hc : x.f3.length ≤ c) (hx : wfW x) (ha0 : -9223372036854775808 ≤ ct) (ha1 : ct ≤ 9223372036854775807) (hs0 : ah.size ≤ 9223372036854775807) (hs1 : be.size ≤ 9223372036854775807) :
    Calls Try.prog 5 #[.agg #[.int .i64 x.f0, .int .i64 x.f1, .string x.f2, .slice A x.f3.length c], .string ah, .string be, .int .i64 ct] w fun e w' => e = .returned (.bool true) ∧ Below w.heap.size w w' := by
  obtain ⟨b, ⟨k, hk⟩, hb⟩ := small_any x hx
  obtain ⟨W1, hW1⟩ : ∃ W1, W1 = w.alloc (.cells #[.int .i64 x.f0, .int .i64 x.f1, .string x.f2, .slice A x.f3.length c] 25) := ⟨_, rfl⟩
  obtain ⟨hn1', hg1, _⟩ := made_cell hW1
  have HS := Lib.hid (fastilaw04_small.calls k x.f0 x.f1 x.f2 A c x.f3 b W1 (Kd.C_below hA hn1') hc hk)
  have HW1 := Lib.hid hW1
  have HN1 := Lib.hid hn1'
  have HG1 := Lib.hid hg1
  have HA := Lib.hid hA
  have HB := Lib.hid hb
  clear hW1 hn1' hg1 hA hk hb
  have lives : ∀ W, Below w.heap.size w W → Calls Try.prog 8 #[] W fun e w' => e = .returned (.bool true) ∧ Below w.heap.size w w' := fun W hW => (lives_calls W).mono fun e w' ⟨he, hw⟩ => ⟨he, hW.trans (hw.mono hW.size)⟩
  have LV := Lib.hid lives
  clear lives
  have c0 : W1.cell? ⟨w.heap.size, 0, none⟩ = some (.int .i64 x.f0) := by rw [Lib.cell_of_heap HG1.out]; rfl
  have c1 : W1.cell? ⟨w.heap.size, 1, none⟩ = some (.int .i64 x.f1) := by rw [Lib.cell_of_heap HG1.out]; rfl
  have c2 : W1.cell? ⟨w.heap.size, 2, none⟩ = some (.string x.f2) := by rw [Lib.cell_of_heap HG1.out]; rfl
  have c3 : W1.cell? ⟨w.heap.size, 3, none⟩ = some (.slice A x.f3.length c) := by rw [Lib.cell_of_heap HG1.out]; rfl
  go_enter Try.func5, Try.ntmps5
  go_wp2_with fail
  rw [← HW1.out]
  go_wp2_with fail
  clear c0 c1 c2 c3
  refine HS.out.mono ?_
  rintro e W2 ⟨rfl, hb2⟩
  have HG2 := Lib.hid (keep_block hb2 HG1.out)
  have B2 := Lib.hid (HN1.out.trans (hb2.mono HN1.out.size))
  clear hb2
  by_cases hgd : b = false ∨ 200 < ah.size ∨ 200 < be.size
  · have way : ∀ W, Below w.heap.size w W → True := fun _ _ => trivial
    clear way
    cases b with
    | false =>
      go_wp2_with fail
      refine (LV.out W2 B2.out).mono ?_
      rintro e W3 ⟨rfl, hb3⟩
      go_wp2_with fail
      go_ret
      exact ⟨rfl, hb3⟩
    | true =>
      by_cases h1 : 200 < ah.size
      · go_wp2_with fail
        refine (LV.out W2 B2.out).mono ?_
        rintro e W3 ⟨rfl, hb3⟩
        go_wp2_with fail
        go_ret
        exact ⟨rfl, hb3⟩
      · have h2 : 200 < be.size := by
          rcases hgd with h | h | h
          · cases h
          · exact absurd h h1
          · exact h
        clear hgd
        go_wp2_with fail
        refine (LV.out W2 B2.out).mono ?_
        rintro e W3 ⟨rfl, hb3⟩
        go_wp2_with fail
        go_ret
        exact ⟨rfl, hb3⟩
  · have hbt : b = true := by cases b with
      | true => rfl
      | false => exact absurd (.inl rfl) hgd
    have h1 : ¬ 200 < ah.size := fun h => hgd (.inr (.inl h))
    have h2 : ¬ 200 < be.size := fun h => hgd (.inr (.inr h))
    clear hgd
    subst hbt
    obtain ⟨hp, hd⟩ := HB.out rfl
    have hxs := wfS_small x hx (by omega)
    have hel := enc_le x hxs
    obtain ⟨k1, hk1⟩ := Check_any x hx
    obtain ⟨r, hr⟩ : ∃ r, checkR x = r := ⟨_, rfl⟩
    rw [hr] at hk1
    obtain ⟨q, hq⟩ : ∃ q : ByteArray, (⟨(putB r x).toArray⟩ : ByteArray) = q := ⟨_, rfl⟩
    have hput := fun W (hW : Below w.heap.size w W) => Put_calls k1 x A c r W (Kd.C_below HA.out hW) hc hxs hk1 (fun _ => by omega)
    rw [hq] at hput
    have HPUT := Lib.hid hput
    have HQ := Lib.hid hq
    have HR := Lib.hid hr
    have HXS := Lib.hid hxs
    have d0 : W2.cell? ⟨w.heap.size, 0, none⟩ = some (.int .i64 x.f0) := by rw [Lib.cell_of_heap HG2.out]; rfl
    have d1 : W2.cell? ⟨w.heap.size, 1, none⟩ = some (.int .i64 x.f1) := by rw [Lib.cell_of_heap HG2.out]; rfl
    have d2 : W2.cell? ⟨w.heap.size, 2, none⟩ = some (.string x.f2) := by rw [Lib.cell_of_heap HG2.out]; rfl
    have d3 : W2.cell? ⟨w.heap.size, 3, none⟩ = some (.slice A x.f3.length c) := by rw [Lib.cell_of_heap HG2.out]; rfl
    clear hput hq hr hk1 hxs
    go_wp2_with fail
    clear d0 d1 d2 d3
    refine (HPUT.out W2 B2.out).mono ?_
    rintro e W3 ⟨rfl, hb3⟩
    have HG3 := Lib.hid (keep_block hb3 HG2.out)
    have B3 := Lib.hid (B2.out.trans (hb3.mono B2.out.size))
    clear hb3
    cases hok : okS 16 x with
    | false =>
      have hr2 : r = 2 := by rw [← HR.out]; unfold checkR; rw [hok]; rfl
      subst hr2
      clear hok
      go_wp2_with fail
      refine (LV.out W3 B3.out).mono ?_
      rintro e W3 ⟨rfl, hb3⟩
      go_wp2_with fail
      go_ret
      exact ⟨rfl, hb3⟩
    | true =>
      have hr0 : r = 0 := by rw [← HR.out]; exact checkR_ok hok
      subst hr0
      have hq0 : bytesOf' (encS x) = q := by rw [← HQ.out, putB_ok]; rfl
      have hql : (encS x).length = q.size := by rw [← hq0, bytes_size]
      have hqz : q.size ≤ 1000000 := by omega
      have hsz : (ah ++ q ++ be).size = ah.size + q.size + be.size := by rw [append_size, append_size]
      have hnx := fun W => Next_calls (ah ++ q ++ be) (ah.size : Int) W (by omega) (by omega) (by omega)
      have hmid := next_mid hok HXS.out ah be
      rw [hq0, hql] at hmid
      rw [hmid] at hnx
      unfold NextPost at hnx
      have htk := fun W => Take_calls (q ++ be) W (by rw [append_size]; omega)
      have htr := take_mid hok HXS.out be
      rw [hq0] at htr
      rw [htr] at htk
      unfold TakePost at htk
      have hsh := fun (k : Nat) (hk : k < q.size) => next_short hok HXS.out (hql ▸ hk)
      rw [hq0] at hsh
      obtain ⟨k3, hk3⟩ := Same_self x hx
      have HNX := Lib.hid hnx
      have HTK := Lib.hid htk
      have HSH := Lib.hid hsh
      have HSM := Lib.hid (fun W A' c' (hW : Below w.heap.size w W) (hC : Kd.C k25 W A' x.f3.length x.f3) (hc' : x.f3.length ≤ c') => fastiref04_Same.calls k3 x.f0 x.f1 x.f2 A c x.f3 x.f0 x.f1 x.f2 A' c' x.f3 true W (Kd.C_below HA.out hW) hc hC hc' hk3)
      have HQZ := Lib.hid hqz
      have hb2 : q.size ≤ 9223372036854775807 := by omega
      have g1 : (((ah.size + q.size : Nat) : Int) != (ah.size : Int) + (q.size : Int)) = false := by simp
      have s1 : ah.size + q.size ≤ 9223372036854775807 := by omega
      have s2 : (ah ++ q).size + be.size ≤ 9223372036854775807 := by rw [append_size]; omega
      have hu1 : IntKind.u64.wrap ((q.size : Int) + 1) = (q.size : Int) + 1 := by rw [IntKind.wrap_u64]; omega
      have hu0 : ¬ ((q.size : Int) + 1 = 0) := by omega
      obtain ⟨kk, hkk, hkl⟩ : ∃ kk : Nat, (IntKind.u64.wrap ct).tmod ((q.size : Int) + 1) = (kk : Int) ∧ kk ≤ q.size := by
        have h0 : 0 ≤ IntKind.u64.wrap ct := by rw [IntKind.wrap_u64]; omega
        have e := Int.tmod_eq_emod_of_nonneg h0 (b := (q.size : Int) + 1)
        have l1 := Int.emod_nonneg (IntKind.u64.wrap ct) (b := (q.size : Int) + 1) (by omega)
        have l2 := Int.emod_lt_of_pos (IntKind.u64.wrap ct) (b := (q.size : Int) + 1) (by omega)
        exact ⟨((IntKind.u64.wrap ct).tmod ((q.size : Int) + 1)).toNat, by rw [e]; omega, by rw [e]; omega⟩
      have HU1 := Lib.hid hu1
      have HU0 := Lib.hid hu0
      have HKK := Lib.hid hkk
      have HKL := Lib.hid hkl
      clear hu1 hu0 hkk hkl
      clear hq0 hql hsz hnx hmid htk htr hsh hk3 hok hel hp hd hx
      go_wp2_with fail
      refine (HNX.out W3).mono ?_
      rintro e W4 ⟨v, rfl, hR, hb⟩
      obtain ⟨A1, c1, rfl⟩ := R_slice hR
      obtain ⟨hC1, hc1⟩ := R_C hR
      obtain ⟨X1, hX1⟩ : ∃ X1, X1 = W4.alloc (.cells #[.int .i64 x.f0, .int .i64 x.f1, .string x.f2, .slice A1 x.f3.length c1] 25) := ⟨_, rfl⟩
      obtain ⟨Bx, G1, E1⟩ := made_cell hX1
      have C1 := Lib.hid (Kd.C_below hC1 Bx)
      have B34 := hb.trans (Bx.mono hb.size)
      have HX1 := Lib.hid hX1
      have HG4 := Lib.hid (keep_block B34 HG3.out)
      have HB4 := Lib.hid (B3.out.trans (B34.mono B3.out.size))
      have HGX := Lib.hid G1
      have d0 : X1.cell? ⟨w.heap.size, 0, none⟩ = some (.int .i64 x.f0) := by rw [Lib.cell_of_heap HG4.out]; rfl
      have d1 : X1.cell? ⟨w.heap.size, 1, none⟩ = some (.int .i64 x.f1) := by rw [Lib.cell_of_heap HG4.out]; rfl
      have d2 : X1.cell? ⟨w.heap.size, 2, none⟩ = some (.string x.f2) := by rw [Lib.cell_of_heap HG4.out]; rfl
      have d3 : X1.cell? ⟨w.heap.size, 3, none⟩ = some (.slice A x.f3.length c) := by rw [Lib.cell_of_heap HG4.out]; rfl
      rw [hX1] at d0 d1 d2 d3
      clear hb hR hC1 Bx G1 E1 B34 hX1
      go_wp2_with fail
      rw [← HX1.out]
      clear d0 d1 d2 d3
      refine (HSM.out X1 A1 c1 HB4.out C1.out hc1).mono ?_
      rintro e W5 ⟨rfl, hb⟩
      have HB5 := Lib.hid (HB4.out.trans (hb.mono HB4.out.size))
      clear hb
      have hqz' : q.size ≤ 1000000 := HQZ.out
      have hkl' : kk ≤ q.size := HKL.out
      have hu1 := HU1.out
      have hu0 := HU0.out
      have hkk := HKK.out
      clear g1 s1 s2
      go_upto_region 10 with (fail)
      clear hu1 hu0 hkk
      go_upto_if 82 with (fail)
      go_cut [] (fun wc => Below w.heap.size w wc)
      case first =>
        by_cases hlt : kk < q.size
        · have hnx := fun W => Next_calls (q.extract 0 kk) 0 W (by have := Lib.size_eq (q.extract 0 kk); rw [Lib.extract_data, List.length_take, List.length_drop, ← Lib.size_eq] at this; omega) (by decide) (by decide)
          unfold NextPost at hnx
          rw [HSH.out kk hlt] at hnx
          have hnx' : ∀ W, Calls Try.prog 19 #[.string (q.extract 0 kk), .int .i64 0] W fun e w' => ∃ v3, e = .returned (.tuple #[.agg #[.int .i64 0, .int .i64 0, .string (⟨#[]⟩ : ByteArray), v3], .int .i64 (kk : Int), .int .i64 3]) ∧ Kd.R k25 25 w' W.heap.size (fun _ => True) v3 [] ∧ Below W.heap.size W w' := hnx
          have HNX2 := Lib.hid hnx'
          clear hnx hnx'
          go_wp2_with fail
          refine (HNX2.out W5).mono ?_
          rintro e W6 ⟨v, rfl, hR, hb⟩
          obtain ⟨A1, c1, rfl⟩ := R_slice hR
          have HB6 := Lib.hid (HB5.out.trans (hb.mono HB5.out.size))
          obtain ⟨X2, hX2⟩ : ∃ X2, X2 = W6.alloc (.cells #[.int .i64 0, .int .i64 0, .string (⟨#[]⟩ : ByteArray), .slice A1 0 c1] 25) := ⟨_, rfl⟩
          obtain ⟨By, _, _⟩ := made_cell hX2
          have HB7 := Lib.hid (HB6.out.trans (By.mono HB6.out.size))
          rw [hX2] at HB7
          clear hb hR hX2 By
          go_wp2_with fail
          go_meet
          case rel => exact HB7.out
        · go_wp2_with fail
          go_meet
          case rel => exact HB5.out
      case rest =>
        have HB8 := Lib.hid hcut
        clear hcut
        have s3 : q.size + be.size ≤ 9223372036854775807 := by omega
        by_cases hbe : be.size = 0
        · have htk := HTK.out
          simp only [if_pos hbe] at htk
          have HT2 := Lib.hid htk
          have e1 : be.toList = [] := (toList_nil_iff be).2 hbe
          have e2 : (!be.toList.isEmpty) = false := by rw [e1]; rfl
          clear htk hbe
          go_wp2_with fail
          refine (HT2.out wc).mono ?_
          rintro e W9 ⟨v, rfl, hR, hb⟩
          obtain ⟨A2, c2, rfl⟩ := R_slice hR
          have HB9 := Lib.hid (HB8.out.trans (hb.mono HB8.out.size))
          obtain ⟨X3, hX3⟩ : ∃ X3, X3 = W9.alloc (.cells #[.int .i64 x.f0, .int .i64 x.f1, .string x.f2, .slice A2 x.f3.length c2] 25) := ⟨_, rfl⟩
          obtain ⟨By, _, _⟩ := made_cell hX3
          have HB10 := Lib.hid (HB9.out.trans (By.mono HB9.out.size))
          have HX3 := Lib.hid hX3
          clear hb hR hX3 By
          go_wp2_with fail
          rw [← HX3.out]
          refine (LV.out X3 HB10.out).mono ?_
          rintro e W11 ⟨rfl, hb6⟩
          go_wp2_with fail
          go_ret
          exact ⟨rfl, hb6⟩
        · have htk := HTK.out
          simp only [if_neg hbe] at htk
          have htk' : ∀ W, Calls Try.prog 21 #[.string (q ++ be)] W fun e w' => ∃ v3, e = .returned (.tuple #[.agg #[.int .i64 0, .int .i64 0, .string (⟨#[]⟩ : ByteArray), v3], .int .i64 4]) ∧ Kd.R k25 25 w' W.heap.size (fun _ => True) v3 [] ∧ Below W.heap.size W w' := htk
          have HT2 := Lib.hid htk'
          have e1 : ¬ be.toList = [] := fun h => hbe ((toList_nil_iff be).1 h)
          have e2 : (be.toList.isEmpty) = false := by rw [List.isEmpty_eq_false_iff]; exact e1
          clear htk htk' hbe
          go_wp2_with fail
          refine (HT2.out wc).mono ?_
          rintro e W9 ⟨v, rfl, hR, hb⟩
          obtain ⟨A2, c2, rfl⟩ := R_slice hR
          have HB9 := Lib.hid (HB8.out.trans (hb.mono HB8.out.size))
          obtain ⟨X3, hX3⟩ : ∃ X3, X3 = W9.alloc (.cells #[.int .i64 0, .int .i64 0, .string (⟨#[]⟩ : ByteArray), .slice A2 0 c2] 25) := ⟨_, rfl⟩
          obtain ⟨By, _, _⟩ := made_cell hX3
          have HB10 := Lib.hid (HB9.out.trans (By.mono HB9.out.size))
          have HX3 := Lib.hid hX3
          clear hb hR hX3 By
          go_wp2_with fail
          rw [← HX3.out]
          refine (LV.out X3 HB10.out).mono ?_
          rintro e W11 ⟨rfl, hb6⟩
          go_wp2_with fail
          go_ret
          exact ⟨rfl, hb6⟩
end Go.Proofs.Ytjelpapcboiimaa.PCellPuts
