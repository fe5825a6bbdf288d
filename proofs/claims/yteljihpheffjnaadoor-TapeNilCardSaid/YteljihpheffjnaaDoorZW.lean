/- Texts of one proof, joined: Gv. -/
import Derived.Test.YteljihpheffjnaaDoorZGc
import Derived.Test.YteljihpheffjnaaDoorZGb
set_option linter.unusedSimpArgs false
set_option linter.unusedVariables false
/- TapeNil, walked. -/
namespace Go.Proofs.YteljihpheffjnaaDoor.Tape
open Go.RowKit Go.Proofs.YteljihpheffjnaaDoor.Ord Go.Proofs.YteljihpheffjnaaDoorW.PrintWords Go.Proofs.YteljihpheffjnaaDoor.Base Go.Proofs.YteljihpheffjnaaDoor.Drum
set_option linter.unusedVariables false
set_option linter.unusedSimpArgs false
attribute [local irreducible] OpGives

set_option maxRecDepth 100000 in
set_option maxHeartbeats 8000000 in
theorem tapeNil_rest (s : ByteArray) (w : World) : ∀ made : Bool, ¬ (1000 < s.size) → Calls Tryd.prog 3 #[.string s, .bool made] w fun e w' => e = .returned (.bool true) ∧ NewMem w w' := by
  intro made hs
  have hd : decide (1000 < s.size) = false := decide_eq_false hs
  have hsi : decide ((s.size : Int) > 1000) = false := decide_eq_false (by omega)
  cases made with
  | false =>
    have hnt : NoTape w (.pointer none) := .inl rfl
    go_enter Tryd.func3, Tryd.ntmps3
    go_wp2_with fail
    refine (open_nil w).mono ?_
    rintro e w' ⟨rfl, rfl⟩
    go_wp2_with fail
    refine (scan_nil w').mono ?_
    rintro e w'' ⟨rfl, rfl⟩
    go_wp2_with fail
    refine (tappend_no _ _ hnt s).mono ?_
    rintro e w' ⟨rfl, rfl⟩
    go_wp2_with fail
    refine (tsettle_no _ _ hnt).mono ?_
    rintro e w' ⟨rfl, rfl⟩
    go_wp2_with fail
    refine (tlen_no _ _ hnt).mono ?_
    rintro e w' ⟨rfl, rfl⟩
    go_wp2_with fail
    refine (tlife_no _ _ hnt).mono ?_
    rintro e w' ⟨rfl, rfl⟩
    go_wp2_with fail
    refine (troom_no _ _ hnt).mono ?_
    rintro e w' ⟨rfl, rfl⟩
    go_wp2_with fail
    refine (lives_any _).mono ?_
    rintro e w1 ⟨rfl, hn⟩
    have HN := Lib.hid hn
    clear hn
    go_wp2
    go_ret
    exact ⟨rfl, HN.out⟩
  | true =>
    obtain ⟨W1, hW1⟩ : ∃ W1, W1 = w.alloc (.cells #[.pointer none, .int .i64 0, .int .i64 0, .int .i64 0, .int .i64 0] 27) := ⟨_, rfl⟩
    have hn1 : NewMem w W1 := by rw [hW1]; exact NewMem.alloc _ _
    have hnt : NoTape W1 (.pointer (some ⟨w.heap.size, 0, none⟩)) := .inr ⟨_, rfl, by rw [hW1, Lib.cell_of_heap (heap_alloc_last _ _)]; rfl⟩
    have HW1 := Lib.hid hW1
    have HN1 := Lib.hid hn1
    clear hW1 hn1
    go_enter Tryd.func3, Tryd.ntmps3
    go_wp2_with fail
    rw [← HW1.out]
    refine (open_nil W1).mono ?_
    rintro e w' ⟨rfl, rfl⟩
    go_wp2_with fail
    refine (scan_nil _).mono ?_
    rintro e w'' ⟨rfl, rfl⟩
    go_wp2_with fail
    refine (tappend_no _ _ hnt s).mono ?_
    rintro e w' ⟨rfl, rfl⟩
    go_wp2_with fail
    refine (tsettle_no _ _ hnt).mono ?_
    rintro e w' ⟨rfl, rfl⟩
    go_wp2_with fail
    refine (tlen_no _ _ hnt).mono ?_
    rintro e w' ⟨rfl, rfl⟩
    go_wp2_with fail
    refine (tlife_no _ _ hnt).mono ?_
    rintro e w' ⟨rfl, rfl⟩
    go_wp2_with fail
    refine (troom_no _ _ hnt).mono ?_
    rintro e w' ⟨rfl, rfl⟩
    go_wp2_with fail
    refine (lives_any _).mono ?_
    rintro e w1 ⟨rfl, hn⟩
    have HN := Lib.hid (NewMem.trans HN1.out hn)
    clear hn
    go_wp2
    go_ret
    exact ⟨rfl, HN.out⟩
theorem tapeNil_walk (s : ByteArray) (made : Bool) (w : World) (hw : s.size ≤ maxLen) : Calls Tryd.prog 3 #[.string s, .bool made] w fun e w' => e = .returned (.bool true) ∧ NewMem w w' := by
  by_cases hs : 1000 < s.size
  · have hd : decide (1000 < s.size) = true := decide_eq_true hs
    have hl := Lib.hid (lives_any w)
    go_enter Tryd.func3, Tryd.ntmps3
    go_wp2_with fail
    refine hl.out.mono ?_
    rintro e w1 ⟨rfl, hn⟩
    have HN := Lib.hid hn
    clear hn
    go_wp2
    go_ret
    exact ⟨rfl, HN.out⟩
  · exact tapeNil_rest s w made hs
end Go.Proofs.YteljihpheffjnaaDoor.Tape
