/- No drum, and one that nothing made: DrumNil walked. -/
import Derived.Test.YtjnbdikhajnciaaEn
namespace Go.Proofs.Ytjnbdikhajnciaa.Drum
open Go.RowKit Go.Proofs.Ytjnbdikhajnciaa.Ord Go.Proofs.YtjnbdikhajnciaaW.PrintWords Go.Proofs.Ytjnbdikhajnciaa.Base
set_option linter.unusedVariables false

theorem crash_nil (a : Option Addr) (n c : Nat) (w : World) : Calls Try.prog 22 #[.pointer none, .slice a n c] w fun e w' => e = .returned (.int .i64 1) ∧ NewMem w w' := by
  go_enter Try.func22, Try.ntmps22
  go_wp2_with fail
  refine (made_nil _).mono ?_
  rintro e w' ⟨rfl, rfl⟩
  go_wp2
  go_ret
  exact ⟨rfl, NewMem.alloc _ _⟩
theorem crash_not (b : Nat) (a' : Option Addr) (cap : Nat) (a : Option Addr) (n c : Nat) (w : World) (h : w.cell? ⟨b, 0, none⟩ = some (.slice a' 0 cap)) (hb : b < w.heap.size) :
    Calls Try.prog 22 #[.pointer (some ⟨b, 0, none⟩), .slice a n c] w fun e w' => e = .returned (.int .i64 1) ∧ NewMem w w' := by
  have h1 := (Below.cell (NewMem.alloc w (.cells #[.slice a n c] 53)) (p := ⟨b, 0, none⟩) hb).trans h
  have H1 := Lib.hid h1
  clear h1
  go_enter Try.func22, Try.ntmps22
  go_wp2_with fail
  refine (made_of b a' 0 cap _ H1.out).mono ?_
  rintro e w' ⟨rfl, rfl⟩
  go_wp2
  go_ret
  exact ⟨rfl, NewMem.alloc _ _⟩
theorem sure_nil (i : Int) (w : World) : Calls Try.prog 34 #[.pointer none, .int .i64 i] w fun e w' => e = .returned (.string ByteArray.empty) ∧ w = w' := by
  go_enter Try.func34, Try.ntmps34
  go_wp2_with fail
  refine (has_nil _ _).mono ?_
  rintro e w' ⟨rfl, rfl⟩
  go_wp2
  go_ret
  exact ⟨rfl, rfl⟩
theorem sure_not (b : Nat) (a : Option Addr) (cap : Nat) (i : Int) (w : World) (h : w.cell? ⟨b, 0, none⟩ = some (.slice a 0 cap)) :
    Calls Try.prog 34 #[.pointer (some ⟨b, 0, none⟩), .int .i64 i] w fun e w' => e = .returned (.string ByteArray.empty) ∧ w = w' := by
  have ch := has_of b a 0 cap i w h
  rw [decide_eq_false (by omega)] at ch
  have CH := Lib.hid ch
  clear ch
  go_enter Try.func34, Try.ntmps34
  go_wp2_with fail
  refine CH.out.mono ?_
  rintro e w' ⟨rfl, rfl⟩
  go_wp2
  go_ret
  exact ⟨rfl, rfl⟩
set_option maxRecDepth 100000 in
set_option maxHeartbeats 8000000 in
theorem drumNil_walk (i : Int) (s : ByteArray) (made : Bool) (w : World) (hs : s.size ≤ maxLen) :
    Calls Try.prog 11 #[.int .i64 i, .string s, .bool made] w fun e w' => e = .returned (.bool true) ∧ Below w.heap.size w w' := by
  by_cases hl : 200 < s.size
  · have hl' : ((s.size : Int)) > 200 := by omega
    go_enter Try.func11, Try.ntmps11
    go_wp2_with fail
    refine (lives_any _).mono ?_
    rintro e w' ⟨rfl, hn⟩
    go_wp2
    go_ret
    exact ⟨rfl, hn⟩
  · have hl' : ¬ ((s.size : Int)) > 200 := by omega
    cases made with
    | false =>
      go_enter Try.func11, Try.ntmps11
      go_wp2_with fail
      refine (read_nil _ _).mono ?_
      rintro e W1 ⟨rfl, hn1⟩
      have H1 := Lib.hid hn1
      clear hn1
      go_wp2_with fail
      refine (write_nil _ _ _).mono ?_
      rintro e w' ⟨rfl, rfl⟩
      go_wp2_with fail
      refine (settle_nil _).mono ?_
      rintro e w' ⟨rfl, rfl⟩
      go_wp2_with fail
      refine (arm_nil _ _).mono ?_
      rintro e w' ⟨rfl, rfl⟩
      go_wp2_with fail
      refine (crash_nil _ _ _ _).mono ?_
      rintro e W2 ⟨rfl, hn2⟩
      have H2 := Lib.hid (H1.out.trans hn2)
      clear hn2
      go_wp2_with fail
      refine (sure_nil _ _).mono ?_
      rintro e w' ⟨rfl, rfl⟩
      go_wp2_with fail
      refine (loose_nil _).mono ?_
      rintro e w' ⟨rfl, rfl⟩
      go_wp2_with fail
      refine (size_nil _).mono ?_
      rintro e w' ⟨rfl, rfl⟩
      go_wp2_with fail
      refine (down_nil _).mono ?_
      rintro e w' ⟨rfl, rfl⟩
      go_wp2_with fail
      refine (copy_nil _).mono ?_
      rintro e w' ⟨rfl, rfl⟩
      go_wp2_with fail
      refine (lives_any _).mono ?_
      rintro e W3 ⟨rfl, hn3⟩
      have H3 := Lib.hid (H2.out.trans hn3)
      clear hn3
      go_wp2_with fail
      go_ret
      exact ⟨rfl, H3.out⟩
    | true =>
      go_enter Try.func11, Try.ntmps11
      go_wp2_with fail
      obtain ⟨b, hb⟩ : ∃ b, b = w.heap.size := ⟨_, rfl⟩
      rw [← hb]
      generalize hW0 : w.alloc _ = W0
      have hc0 : W0.cell? ⟨b, 0, none⟩ = some (.slice none 0 0) := by rw [← hW0, hb]; simp [go_sem]
      have hlt : b < W0.heap.size := by rw [← hW0, hb]; simp
      have hn0 : NewMem w W0 := by rw [← hW0]; exact NewMem.alloc _ _
      have C0 := Lib.hid hc0
      have HLT := Lib.hid hlt
      have H0 := Lib.hid hn0
      clear hc0 hlt hn0 hW0 hb
      refine (read_not b none 0 _ _ C0.out HLT.out).mono ?_
      rintro e W1 ⟨rfl, hn1⟩
      have C1 := Lib.hid ((Below.cell hn1 (p := ⟨b, 0, none⟩) HLT.out).trans C0.out)
      have HLT1 := Lib.hid (Nat.lt_of_lt_of_le HLT.out hn1.size)
      have H1 := Lib.hid (H0.out.trans hn1)
      clear hn1
      go_wp2_with fail
      refine (write_not b none 0 _ _ _ C1.out).mono ?_
      rintro e w' ⟨rfl, rfl⟩
      go_wp2_with fail
      refine (settle_not b none 0 _ C1.out).mono ?_
      rintro e w' ⟨rfl, rfl⟩
      go_wp2_with fail
      refine (arm_not b none 0 _ _ C1.out).mono ?_
      rintro e w' ⟨rfl, rfl⟩
      go_wp2_with fail
      refine (crash_not b none 0 _ _ _ _ C1.out HLT1.out).mono ?_
      rintro e W2 ⟨rfl, hn2⟩
      have C2 := Lib.hid ((Below.cell hn2 (p := ⟨b, 0, none⟩) HLT1.out).trans C1.out)
      have H2 := Lib.hid (H1.out.trans hn2)
      clear hn2
      go_wp2_with fail
      refine (sure_not b none 0 _ _ C2.out).mono ?_
      rintro e w' ⟨rfl, rfl⟩
      go_wp2_with fail
      refine (loose_not b none 0 _ C2.out).mono ?_
      rintro e w' ⟨rfl, rfl⟩
      go_wp2_with fail
      refine (size_not b none 0 _ C2.out).mono ?_
      rintro e w' ⟨rfl, rfl⟩
      go_wp2_with fail
      refine (down_not b none 0 _ C2.out).mono ?_
      rintro e w' ⟨rfl, rfl⟩
      go_wp2_with fail
      refine (copy_not b none 0 _ C2.out).mono ?_
      rintro e w' ⟨rfl, rfl⟩
      go_wp2_with fail
      refine (lives_any _).mono ?_
      rintro e W3 ⟨rfl, hn3⟩
      have H3 := Lib.hid (H2.out.trans hn3)
      clear hn3
      go_wp2_with fail
      go_ret
      exact ⟨rfl, H3.out⟩
end Go.Proofs.Ytjnbdikhajnciaa.Drum
