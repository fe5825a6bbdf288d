/- The walks of the laws on digits: Hex and Unhex as the specification, and one against the other: any text. -/
import Derived.Test.YtjnbdikhajnciaaDq
import Derived.Test.YtjnbdikhajnciaaDr
import Derived.Lib.Hide
namespace Go.Proofs.Ytjnbdikhajnciaa.Dig
open Go.RowKit Go.Proofs.Ytjnbdikhajnciaa.Sha Go.Proofs.Ytjnbdikhajnciaa.Ord Go.Proofs.YtjnbdikhajnciaaW.PrintWords

theorem lives_more {B : Nat} {a w w' : World} (h : Below B a w) (hB : B ≤ w.heap.size) (k : Below w.heap.size w w') : Below B a w' := h.trans (k.mono hB)

set_option maxRecDepth 100000 in
set_option maxHeartbeats 8000000 in
theorem digestHexes_walk (s : ByteArray) (w : World) :
    Calls Try.prog 7 #[.string s] w fun e w' => e = .returned (.bool true) ∧ Below w.heap.size w w' := by
  by_cases hs : (s.size : Int) > 3000
  · go_enter Try.func7, Try.ntmps7
    go_wp2_with fail
    refine (lives_any _).mono ?_
    rintro e w1 ⟨rfl, hb1⟩
    go_wp2_with fail
    go_ret
    exact ⟨rfl, hb1⟩
  · have c1 := unhex_any s (by omega)
    have c2 := refunhex_any s (by omega)
    have c3 := hex_any s (by omega)
    have c4 := refhex_any s (by omega)
    generalize (unhexR s.data.toList).1 = a at c1 c2
    generalize (unhexR s.data.toList).2 = f at c1 c2
    generalize (⟨(hex s.data.toList).toArray⟩ : ByteArray) = h at c3 c4
    have C1 := Lib.hid c1
    have C2 := Lib.hid c2
    have C3 := Lib.hid c3
    have C4 := Lib.hid c4
    clear c1 c2 c3 c4
    go_enter Try.func7, Try.ntmps7
    go_wp2_with fail
    refine (C1.out _).mono ?_
    rintro e w1 ⟨rfl, hb1⟩
    have s1 := hb1.size
    go_wp2_with fail
    refine (C2.out _).mono ?_
    rintro e w2 ⟨rfl, hb2⟩
    have hB2 : Below w.heap.size w w2 := lives_more hb1 s1 hb2
    have s2 := hB2.size
    go_wp2_with fail
    refine (C3.out _).mono ?_
    rintro e w3 ⟨rfl, hb3⟩
    have hB3 : Below w.heap.size w w3 := lives_more hB2 s2 hb3
    have s3 := hB3.size
    go_wp2_with fail
    refine (C4.out _).mono ?_
    rintro e w4 ⟨rfl, hb4⟩
    have hB4 : Below w.heap.size w w4 := lives_more hB3 s3 hb4.below
    have s4 := hB4.size
    go_wp2_with fail
    refine (lives_any _).mono ?_
    rintro e w5 ⟨rfl, hb5⟩
    have hB5 : Below w.heap.size w w5 := lives_more hB4 s4 hb5
    go_wp2_with fail
    go_ret
    exact ⟨rfl, hB5⟩

set_option maxRecDepth 100000 in
set_option maxHeartbeats 8000000 in
theorem digestBack_walk (s : ByteArray) (w : World) :
    Calls Try.prog 8 #[.string s] w fun e w' => e = .returned (.bool true) ∧ Below w.heap.size w w' := by
  by_cases hs : (s.size : Int) > 3000
  · go_enter Try.func8, Try.ntmps8
    go_wp2_with fail
    refine (lives_any _).mono ?_
    rintro e w1 ⟨rfl, hb1⟩
    go_wp2_with fail
    go_ret
    exact ⟨rfl, hb1⟩
  · obtain ⟨h, hh⟩ : ∃ h : ByteArray, h = ⟨(hex s.data.toList).toArray⟩ := ⟨_, rfl⟩
    have e1 : h.size = 2 * s.size := by rw [hh, ba_size, hex_len]; simp
    have e2 : unhexR h.data.toList = (s, 0) := by rw [hh]; simp [unhexR, unhex_hex]
    have c1 := hex_any s (by omega)
    have c2 := unhex_any h (by omega)
    rw [e2] at c2
    rw [← hh] at c1
    simp only at c2
    have c3 := unhex_any s (by omega)
    have c4 : ∀ w, Calls Try.prog 13 #[.string s] w fun e w' => ∃ t : ByteArray, e = .returned (.string t) ∧ t.size = 32 ∧ Below w.heap.size w w' := fun w =>
      (sum_any s (by omega) w).mono fun _ _ ⟨he, hb⟩ => ⟨_, he, rfl, hb⟩
    obtain ⟨t, e, hte⟩ : ∃ (t : ByteArray) (e : Int), unhexR s.data.toList = (t, e) := ⟨_, _, rfl⟩
    rw [hte] at c3
    simp only at c3
    have ht : (e = 0 ∧ t.size ≤ 3000 ∧ (⟨(hex t.data.toList).toArray⟩ : ByteArray) = s) ∨ (e = 4 ∧ t = ⟨#[]⟩) := by
      unfold unhexR at hte
      cases hu : unhex s.data.toList with
      | none => rw [hu] at hte; injection hte with h1 h2; exact .inr ⟨h2.symm, h1.symm⟩
      | some l =>
        rw [hu] at hte; injection hte with h1 h2
        have hx := hex_unhex _ _ hu
        subst h1
        have hl : 2 * l.length = s.size := by rw [← hex_len, hx]; simp
        exact .inl ⟨h2.symm, by rw [ba_size]; omega, by simp [hx]⟩
    have e1' : (h.size : Int) = 2 * (s.size : Int) := by omega
    have C1 := Lib.hid c1
    have C2 := Lib.hid c2
    have C3 := Lib.hid c3
    have C4 := Lib.hid c4
    clear c1 c2 c3 c4 hte e1 e2 hh
    go_enter Try.func8, Try.ntmps8
    go_wp2_with fail
    refine (C1.out _).mono ?_
    rintro e w1 ⟨rfl, hb1⟩
    have s1 := hb1.size
    go_wp2_with fail
    refine (C2.out _).mono ?_
    rintro e w2 ⟨rfl, hb2⟩
    have hB2 : Below w.heap.size w w2 := lives_more hb1 s1 hb2
    have s2 := hB2.size
    go_wp2_with fail
    refine (C1.out _).mono ?_
    rintro e w3 ⟨rfl, hb3⟩
    have hB3 : Below w.heap.size w w3 := lives_more hB2 s2 hb3
    have s3 := hB3.size
    go_wp2_with fail
    refine (C4.out _).mono ?_
    rintro e w4 ⟨x, rfl, hx32, hb4⟩
    have hB4 : Below w.heap.size w w4 := lives_more hB3 s3 hb4
    have s4 := hB4.size
    go_wp2_with fail
    refine (C3.out _).mono ?_
    rintro e w5 ⟨rfl, hb5⟩
    have hB5 : Below w.heap.size w w5 := lives_more hB4 s4 hb5
    have s5 := hB5.size
    rcases ht with ⟨rfl, ht3, hts⟩ | ⟨rfl, rfl⟩
    · have c5 := hex_any t (by omega)
      rw [hts] at c5
      have C5 := Lib.hid c5
      clear c5 hts
      go_wp2_with fail
      refine (C5.out _).mono ?_
      rintro e w6 ⟨rfl, hb6⟩
      have hB6 : Below w.heap.size w w6 := lives_more hB5 s5 hb6
      have s6 := hB6.size
      go_wp2_with fail
      refine (lives_any _).mono ?_
      rintro e w7 ⟨rfl, hb7⟩
      have hB7 : Below w.heap.size w w7 := lives_more hB6 s6 hb7
      go_wp2_with fail
      go_ret
      exact ⟨rfl, hB7⟩
    · go_wp2_with fail
      refine (lives_any _).mono ?_
      rintro e w7 ⟨rfl, hb7⟩
      have hB7 : Below w.heap.size w w7 := lives_more hB5 s5 hb7
      go_wp2_with fail
      go_ret
      exact ⟨rfl, hB7⟩
end Go.Proofs.Ytjnbdikhajnciaa.Dig
