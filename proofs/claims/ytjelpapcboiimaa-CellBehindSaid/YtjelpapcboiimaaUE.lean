/- The reader's small functions: need, first, most. -/
import Derived.Test.YtjelpapcboiimaaUD
import Derived.WalkSmall
import Derived.WalkLawsBesides
namespace Go.Proofs.Ytjelpapcboiimaa.PCellPuts
open Go.RowKit Go.Proofs.YtjelpapcboiimaaW.PrintWords Go.Proofs.YtjelpapcboiimaaW.PrintLast Go.Proofs.YtjelpapcboiimaaW.PrintMore
set_option linter.unusedVariables false
set_option linter.unusedSimpArgs false

/-- The panic that 'need' raises. -/
def wrongP (p e : Int) : List PanicEntry := [{ v := .iface 65 (.agg #[.int .i64 p, .int .i64 e]), recovered := false }]
set_option maxRecDepth 100000 in
theorem need_ok (p e : Int) (w : World) : Calls Try.prog 38 #[.bool true, .int .i64 p, .int .i64 e] w fun en w' => en = .returned (.tuple #[]) ∧ w' = w := by
  go_enter Try.func38, Try.ntmps38
  go_wp2
  go_end0
  exact ⟨rfl, rfl⟩
set_option maxRecDepth 100000 in
theorem need_no (p e : Int) (w : World) : Calls Try.prog 38 #[.bool false, .int .i64 p, .int .i64 e] w fun en w' => en = .panicked (wrongP p e) ∧ w' = w := by
  go_enter Try.func38, Try.ntmps38
  go_wp2
  exact ⟨rfl, rfl, rfl⟩
/-- What 'first' answers. -/
def firstV (b : Nat) : Value :=
  if b / 16 = 1 then .iface 86 (.agg #[.bool false]) else if b / 16 = 2 then .iface 86 (.agg #[.bool true]) else if b / 16 = 3 then .iface 88 (.agg #[]) else if b / 16 = 4 then .iface 92 (.agg #[]) else .nilIface
set_option maxRecDepth 100000 in
theorem first_calls (b : Nat) (w : World) (hb : b < 256) : Calls Try.prog 37 #[.int .u8 (b : Int)] w fun en w' => en = .returned (firstV b) ∧ w' = w := by
  unfold firstV
  by_cases h1 : b / 16 = 1
  · rw [if_pos h1]
    go_enter Try.func37, Try.ntmps37
    go_wp2
    go_ret
    exact ⟨rfl, rfl⟩
  · rw [if_neg h1]
    have e1 : ((b : Int) / 16 == 1) = false := by rw [beq_eq_false_iff_ne]; omega
    by_cases h2 : b / 16 = 2
    · rw [if_pos h2]
      have e2 : ((b : Int) / 16 == 2) = true := by rw [beq_iff_eq]; omega
      go_enter Try.func37, Try.ntmps37
      go_wp2
      go_ret
      exact ⟨rfl, rfl⟩
    · rw [if_neg h2]
      have e2 : ((b : Int) / 16 == 2) = false := by rw [beq_eq_false_iff_ne]; omega
      by_cases h3 : b / 16 = 3
      · rw [if_pos h3]
        have e3 : ((b : Int) / 16 == 3) = true := by rw [beq_iff_eq]; omega
        go_enter Try.func37, Try.ntmps37
        go_wp2
        go_ret
        exact ⟨rfl, rfl⟩
      · rw [if_neg h3]
        have e3 : ((b : Int) / 16 == 3) = false := by rw [beq_eq_false_iff_ne]; omega
        by_cases h4 : b / 16 = 4
        · rw [if_pos h4]
          have e4 : ((b : Int) / 16 == 4) = true := by rw [beq_iff_eq]; omega
          go_enter Try.func37, Try.ntmps37
          go_wp2
          go_ret
          exact ⟨rfl, rfl⟩
        · rw [if_neg h4]
          have e4 : ((b : Int) / 16 == 4) = false := by rw [beq_eq_false_iff_ne]; omega
          go_enter Try.func37, Try.ntmps37
          go_wp2
          go_ret
          exact ⟨rfl, rfl⟩
set_option maxRecDepth 100000 in
theorem most_number (v : Bool) (w : World) : Calls Try.prog 60 #[.agg #[.bool v]] w fun en w' => en = .returned (.tuple #[.int .i64 8, .int .u64 9223372036854775807]) ∧ Below w.heap.size w w' := by
  go_enter Try.func60, Try.ntmps60
  go_wp2
  go_ret2
  exact ⟨rfl, (Below.refl _ _).alloc (Nat.le_refl _) _⟩
set_option maxRecDepth 100000 in
theorem most_word (w : World) : Calls Try.prog 61 #[.agg #[]] w fun en w' => en = .returned (.tuple #[.int .i64 2, .int .u64 65535]) ∧ Below w.heap.size w w' := by
  go_enter Try.func61, Try.ntmps61
  go_wp2
  go_ret2
  exact ⟨rfl, (Below.refl _ _).alloc (Nat.le_refl _) _⟩
set_option maxRecDepth 100000 in
theorem most_row (w : World) : Calls Try.prog 62 #[.agg #[]] w fun en w' => en = .returned (.tuple #[.int .i64 2, .int .u64 4095]) ∧ Below w.heap.size w w' := by
  go_enter Try.func62, Try.ntmps62
  go_wp2
  go_ret2
  exact ⟨rfl, (Below.refl _ _).alloc (Nat.le_refl _) _⟩
end Go.Proofs.Ytjelpapcboiimaa.PCellPuts
