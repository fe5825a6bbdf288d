/- Texts of one proof, joined: PObjectPutsx8, ZUA, ZSA, ZUB, ZA, ZB, ZC, ZQ, ZO1, ZSC, ZD, ZE, ZF, ZG, ZI. -/
import Derived.Test.YtgjlchcfdbmmlaaGreatDoorYc
import Derived.Test.YtgjlchcfdbmmlaaGreatDoorYb
import Derived.Maps.RangeWalk
import Derived.Lib.Strings
import Derived.Lib.Walk
import Derived.Lib.Builder
import Derived.Lib.AppendStr
import Derived.Lib.UnsafeStr
import Derived.Laws.Externs
import Derived.Lib.Hide
import Derived.Deep.WholeRow
import Derived.Laws.DeepNot64
import Derived.WalkSmall
import Derived.WalkLawsBesides
import Derived.Laws.Strings2
import Derived.Deep.AppendLies
set_option linter.unusedSimpArgs false
set_option linter.unusedVariables false
-- cut from a text PRINTED BY print.sh
namespace Go.Proofs.YtgjlchcfdbmmlaaGreatDoor.PObjectPuts
open Go.RowKit Go.Proofs.YtgjlchcfdbmmlaaGreatDoorW.PrintWords Go.Proofs.YtgjlchcfdbmmlaaGreatDoorW.PrintLast Go.Proofs.YtgjlchcfdbmmlaaGreatDoorW.PrintMore
attribute [local go_sem] max2_int min2_int max_two min_two max_three min_three max_four min_four   -- for this text's walks alone

-- NOT PRINTED: function 5 (fastilaw07_lives)

/-! ### fastiref01_Width: function 82 -/
mutual
def fastiref01_Width.j0 : Nat → ByteArray → Int → Bool → Option (Int)
  | 0, _, _, _ => none
  | k + 1, x0, x1, x17 => if x17 = true then (some 0) else (if 0 ≤ x1 then (if x1 < (x0.size : Int) then (if (wrap64 (bt x0 x1)) < 128 then (some 1) else (if (wrap64 (bt x0 x1)) ≥ 192 then (fastiref01_Width.j1 k x0 x1 (wrap64 (bt x0 x1)) (decide ((wrap64 (bt x0 x1)) < 224))) else (fastiref01_Width.j1 k x0 x1 (wrap64 (bt x0 x1)) false))) else (none)) else (none))
def fastiref01_Width.j3 : Nat → ByteArray → Int → Int → Int → Int → Option (Int)
  | 0, _, _, _, _, _ => none
  | k + 1, x0, x1, x6, x7, x8 => fastiref01_Width.l0 k x0 x1 x6 x7 x8 1
def fastiref01_Width.l0 : Nat → ByteArray → Int → Int → Int → Int → Int → Option (Int)
  | 0, _, _, _, _, _, _ => none
  | k + 1, x0, x1, x6, x7, x8, x9 => if x9 < x6 then (if (wrap64 (x1 + x9)) ≥ (x0.size : Int) then (some 0) else (if 0 ≤ (wrap64 (x1 + x9)) then (if (wrap64 (x1 + x9)) < (x0.size : Int) then (if (wrap64 (Int.tdiv (wrap64 (bt x0 (wrap64 (x1 + x9)))) 64)) = 2 then (fastiref01_Width.l0 k x0 x1 x6 (wrap64 ((wrap64 (64 * x7)) + (Int.tmod (wrap64 (bt x0 (wrap64 (x1 + x9)))) 64))) x8 (wrap64 (x9 + 1))) else (some 0)) else (none)) else (none))) else (if x7 < x8 then (some 0) else (if x7 ≥ 55296 then (if x7 < 57344 then (some 0) else (if x7 > 1114111 then (some 0) else (some x6))) else (if x7 > 1114111 then (some 0) else (some x6))))
def fastiref01_Width.j1 : Nat → ByteArray → Int → Int → Bool → Option (Int)
  | 0, _, _, _, _ => none
  | k + 1, x0, x1, x5, x26 => if x26 = true then (fastiref01_Width.j3 k x0 x1 2 (wrap64 (x5 - 192)) 128) else (if x5 ≥ 224 then (fastiref01_Width.j2 k x0 x1 x5 (decide (x5 < 240))) else (fastiref01_Width.j2 k x0 x1 x5 false))
def fastiref01_Width.j2 : Nat → ByteArray → Int → Int → Bool → Option (Int)
  | 0, _, _, _, _ => none
  | k + 1, x0, x1, x5, x35 => if x35 = true then (fastiref01_Width.j3 k x0 x1 3 (wrap64 (x5 - 224)) 2048) else (if x5 ≥ 240 then (if x5 < 248 then (fastiref01_Width.j3 k x0 x1 4 (wrap64 (x5 - 240)) 65536) else (some 0)) else (some 0))
end
def fastiref01_Width.f (k : Nat) (a0 : ByteArray) (a1 : Int) : Option (Int) := if a1 < 0 then (fastiref01_Width.j0 k a0 a1 true) else (fastiref01_Width.j0 k a0 a1 (decide (a1 ≥ (a0.size : Int))))
set_option maxHeartbeats 8000000 in
set_option maxRecDepth 100000 in
theorem fastiref01_Width.calls (k : Nat) (a0 : ByteArray) (a1 : Int) (r : Int) (w : World) (h : fastiref01_Width.f k a0 a1 = some r) :
    Calls Tryz.prog 82 #[.string a0, .int .i64 a1] w fun e w' => e = .returned (.int .i64 r) ∧ Drawn0 w w' := by
  have H : (if a1 < 0 then (fastiref01_Width.j0 k a0 a1 true) else (fastiref01_Width.j0 k a0 a1 (decide (a1 ≥ (a0.size : Int))))) = some r := h
  clear h
  have HC3 := Aside0.mk H
  clear H
  go_enter Tryz.func82, Tryz.ntmps82
  go_upto_region 1 with (fail)
  go_cut [17] (fun v17 wc => ∃ (kq : Nat) (x17_2 : Bool), v17 = .bool x17_2 ∧ Aside0 (fastiref01_Width.j0 kq a0 a1 x17_2 = some r) ∧ Aside0 (kq ≤ k) ∧ Drawn0 w wc)
  case first =>
    have H := HC3.out
    clear HC3
    by_cases c4 : a1 < 0
    · rw [if_pos c4] at H
      have c4b0 : decide (a1 < 0) = true := decide_eq_true c4
      clear c4
      (first | rw [c4b0] | (simp only [i64_w, i32_w]; rw [c4b0]) | skip)
      have H' := Aside0.mk H
      clear H
      go_wp2
      go_meet
      case rel => exact ⟨_, (true), (by first | rfl | (simp; done) | (simp [*]; done)), H', ⟨by first | omega | exact Nat.le_refl _⟩, by repeat (first | exact Drawn0.refl _ | apply Drawn0.step)⟩
    · rw [if_neg c4] at H
      have c4b0 : decide (a1 < 0) = false := decide_eq_false c4
      clear c4
      (first | rw [c4b0] | (simp only [i64_w, i32_w]; rw [c4b0]) | skip)
      have H' := Aside0.mk H
      clear H
      go_wp2
      go_meet
      case rel => exact ⟨_, (decide (a1 ≥ (a0.size : Int))), (by first | rfl | (simp; done) | (simp [*]; done)), H', ⟨by first | omega | exact Nat.le_refl _⟩, by repeat (first | exact Drawn0.refl _ | apply Drawn0.step)⟩
  case rest =>
    clear HC3
    try clear p2
    try clear c4
    try clear c4b0
    obtain ⟨kq, x17_2, rfl, HA, HJ2, ⟨mc2, rfl⟩⟩ := hcut
    cases kq with
    | zero => exact absurd HA.out (by simp [fastiref01_Width.j0])
    | succ kj2 =>
      have H := HA.out
      clear HA
      simp only [fastiref01_Width.j0] at H
      by_cases c5 : x17_2 = true
      · subst c5
        have H1 : (some 0) = some r := by rw [if_pos rfl] at H; exact H
        clear H
        have H := H1
        clear H1
        obtain rfl := Option.some.inj H
        go_wp2
        go_ret
        exact ⟨by first | rfl | (simp; done) | (simp [*]; done), by repeat (first | exact Drawn0.refl _ | apply Drawn0.step)⟩
      · replace c5 := Bool.eq_false_iff.mpr c5
        subst c5
        have H1 : (if 0 ≤ a1 then (if a1 < (a0.size : Int) then (if (wrap64 (bt a0 a1)) < 128 then (some 1) else (if (wrap64 (bt a0 a1)) ≥ 192 then (fastiref01_Width.j1 kj2 a0 a1 (wrap64 (bt a0 a1)) (decide ((wrap64 (bt a0 a1)) < 224))) else (fastiref01_Width.j1 kj2 a0 a1 (wrap64 (bt a0 a1)) false))) else (none)) else (none)) = some r := by rw [if_neg (show ¬ (false = true) by decide)] at H; exact H
        clear H
        have H := H1
        clear H1
        by_cases c6 : 0 ≤ a1
        · rw [if_pos c6] at H
          have c6b0 : decide (0 ≤ a1) = true := decide_eq_true c6
          clear c6
          by_cases c7 : a1 < (a0.size : Int)
          · rw [if_pos c7] at H
            have c7b0 : decide (a1 < (a0.size : Int)) = true := decide_eq_true c7
            clear c7
            have HC9 := Aside0.mk H
            clear H
            have p8 : 0 ≤ (a1 : Int) := of_decide_eq_true (by first | (with_reducible assumption) | assumption)
            have q8 : a1 < (a0.size : Int) := of_decide_eq_true (by first | (with_reducible assumption) | assumption)
            have hx8 := bt_at a0 a1
            replace p8 := eq_true p8
            replace q8 := eq_true q8
            go_upto_block 0 with (fail)
            go_cut [6, 7, 8] (fun v6 v7 v8 wc => ∃ (kq : Nat) (x6_8 : Int) (x7_8 : Int) (x8_8 : Int), v6 = .int .i64 x6_8 ∧ v7 = .int .i64 x7_8 ∧ v8 = .int .i64 x8_8 ∧ Aside0 (fastiref01_Width.j3 kq a0 a1 x6_8 x7_8 x8_8 = some r) ∧ Aside0 (kq ≤ kj2) ∧ Drawn0 w wc)
            case first =>
              have H := HC9.out
              clear HC9
              by_cases c10 : (wrap64 (bt a0 a1)) < 128
              · rw [if_pos c10] at H
                have c10b0 : decide ((wrap64 (bt a0 a1)) < 128) = true := decide_eq_true c10
                clear c10
                (first | rw [c10b0] | (simp only [i64_w, i32_w]; rw [c10b0]) | skip)
                obtain rfl := Option.some.inj H
                go_wp2
                go_ret
                exact ⟨by first | rfl | (simp; done) | (simp [*]; done), by repeat (first | exact Drawn0.refl _ | apply Drawn0.step)⟩
              · rw [if_neg c10] at H
                have c10b0 : decide ((wrap64 (bt a0 a1)) < 128) = false := decide_eq_false c10
                clear c10
                (first | rw [c10b0] | (simp only [i64_w, i32_w]; rw [c10b0]) | skip)
                have HC11 := Aside0.mk H
                clear H
                go_upto_region 8 with (fail)
                go_cut [26] (fun v26 wc => ∃ (kq : Nat) (x26_10 : Bool), v26 = .bool x26_10 ∧ Aside0 (fastiref01_Width.j1 kq a0 a1 (wrap64 (bt a0 a1)) x26_10 = some r) ∧ Aside0 (kq ≤ kj2) ∧ Drawn0 w wc)
                case first =>
                  have H := HC11.out
                  clear HC11
                  by_cases c12 : (wrap64 (bt a0 a1)) ≥ 192
                  · rw [if_pos c12] at H
                    have c12b0 : decide (192 ≤ (wrap64 (bt a0 a1))) = true := decide_eq_true c12
                    clear c12
                    (first | rw [c12b0] | (simp only [i64_w, i32_w]; rw [c12b0]) | skip)
                    have H' := Aside0.mk H
                    clear H
                    go_wp2
                    go_meet
                    case rel => exact ⟨_, (decide ((wrap64 (bt a0 a1)) < 224)), (by first | rfl | (simp; done) | (simp [*]; done)), H', ⟨by have := HJ2.out; first | omega | exact Nat.le_refl _⟩, by repeat (first | exact Drawn0.refl _ | apply Drawn0.step)⟩
                  · rw [if_neg c12] at H
                    have c12b0 : decide (192 ≤ (wrap64 (bt a0 a1))) = false := decide_eq_false c12
                    clear c12
                    (first | rw [c12b0] | (simp only [i64_w, i32_w]; rw [c12b0]) | skip)
                    have H' := Aside0.mk H
                    clear H
                    go_wp2
                    go_meet
                    case rel => exact ⟨_, (false), (by first | rfl | (simp; done) | (simp [*]; done)), H', ⟨by have := HJ2.out; first | omega | exact Nat.le_refl _⟩, by repeat (first | exact Drawn0.refl _ | apply Drawn0.step)⟩
                case rest =>
                  clear HC11
                  try clear c1
                  try clear c2
                  try clear p2
                  try clear c4
                  try clear c4b0
                  try clear c5
                  try clear c6
                  try clear c6b0
                  try clear p6
                  try clear c7
                  try clear c7b0
                  try clear c8
                  try clear p8
                  try clear q8
                  try clear hx8
                  try clear c10
                  try clear c10b0
                  try clear c12
                  try clear c12b0
                  try clear p2
                  try clear p8
                  try clear q8
                  obtain ⟨kq, x26_10, rfl, HA, HJ10, ⟨mc10, rfl⟩⟩ := hcut
                  cases kq with
                  | zero => exact absurd HA.out (by simp [fastiref01_Width.j1])
                  | succ kj10 =>
                    have H := HA.out
                    clear HA
                    simp only [fastiref01_Width.j1] at H
                    by_cases c13 : x26_10 = true
                    · subst c13
                      have H1 : (fastiref01_Width.j3 kj10 a0 a1 2 (wrap64 ((wrap64 (bt a0 a1)) - 192)) 128) = some r := by rw [if_pos rfl] at H; exact H
                      clear H
                      have H := H1
                      clear H1
                      have H' := Aside0.mk H
                      clear H
                      go_wp2
                      go_meet
                      case rel => exact ⟨_, (2), (wrap64 ((wrap64 (bt a0 a1)) - 192)), (128), (by first | rfl | (simp; done) | (simp [*]; done)), (by first | rfl | (simp; done) | (simp [*]; done)), (by first | rfl | (simp; done) | (simp [*]; done)), H', ⟨by have := HJ2.out; have := HJ10.out; first | omega | exact Nat.le_refl _⟩, by repeat (first | exact Drawn0.refl _ | apply Drawn0.step)⟩
                    · replace c13 := Bool.eq_false_iff.mpr c13
                      subst c13
                      have H1 : (if (wrap64 (bt a0 a1)) ≥ 224 then (fastiref01_Width.j2 kj10 a0 a1 (wrap64 (bt a0 a1)) (decide ((wrap64 (bt a0 a1)) < 240))) else (fastiref01_Width.j2 kj10 a0 a1 (wrap64 (bt a0 a1)) false)) = some r := by rw [if_neg (show ¬ (false = true) by decide)] at H; exact H
                      clear H
                      have H := H1
                      clear H1
                      have HC14 := Aside0.mk H
                      clear H
                      go_upto_region 10 with (fail)
                      go_cut [35] (fun v35 wc => ∃ (kq : Nat) (x35_13 : Bool), v35 = .bool x35_13 ∧ Aside0 (fastiref01_Width.j2 kq a0 a1 (wrap64 (bt a0 a1)) x35_13 = some r) ∧ Aside0 (kq ≤ kj10) ∧ Drawn0 w wc)
                      case first =>
                        have H := HC14.out
                        clear HC14
                        by_cases c15 : (wrap64 (bt a0 a1)) ≥ 224
                        · rw [if_pos c15] at H
                          have c15b0 : decide (224 ≤ (wrap64 (bt a0 a1))) = true := decide_eq_true c15
                          clear c15
                          (first | rw [c15b0] | (simp only [i64_w, i32_w]; rw [c15b0]) | skip)
                          have H' := Aside0.mk H
                          clear H
                          go_wp2
                          go_meet
                          case rel => exact ⟨_, (decide ((wrap64 (bt a0 a1)) < 240)), (by first | rfl | (simp; done) | (simp [*]; done)), H', ⟨by have := HJ2.out; have := HJ10.out; first | omega | exact Nat.le_refl _⟩, by repeat (first | exact Drawn0.refl _ | apply Drawn0.step)⟩
                        · rw [if_neg c15] at H
                          have c15b0 : decide (224 ≤ (wrap64 (bt a0 a1))) = false := decide_eq_false c15
                          clear c15
                          (first | rw [c15b0] | (simp only [i64_w, i32_w]; rw [c15b0]) | skip)
                          have H' := Aside0.mk H
                          clear H
                          go_wp2
                          go_meet
                          case rel => exact ⟨_, (false), (by first | rfl | (simp; done) | (simp [*]; done)), H', ⟨by have := HJ2.out; have := HJ10.out; first | omega | exact Nat.le_refl _⟩, by repeat (first | exact Drawn0.refl _ | apply Drawn0.step)⟩
                      case rest =>
                        clear HC14
                        try clear c1
                        try clear c2
                        try clear p2
                        try clear c4
                        try clear c4b0
                        try clear c5
                        try clear c6
                        try clear c6b0
                        try clear p6
                        try clear c7
                        try clear c7b0
                        try clear c8
                        try clear p8
                        try clear q8
                        try clear hx8
                        try clear c10
                        try clear c10b0
                        try clear c12
                        try clear c12b0
                        try clear c13
                        try clear c15
                        try clear c15b0
                        try clear p2
                        try clear p6
                        try clear p8
                        try clear q8
                        obtain ⟨kq, x35_13, rfl, HA, HJ13, ⟨mc13, rfl⟩⟩ := hcut
                        cases kq with
                        | zero => exact absurd HA.out (by simp [fastiref01_Width.j2])
                        | succ kj13 =>
                          have H := HA.out
                          clear HA
                          simp only [fastiref01_Width.j2] at H
                          by_cases c16 : x35_13 = true
                          · subst c16
                            have H1 : (fastiref01_Width.j3 kj13 a0 a1 3 (wrap64 ((wrap64 (bt a0 a1)) - 224)) 2048) = some r := by rw [if_pos rfl] at H; exact H
                            clear H
                            have H := H1
                            clear H1
                            have H' := Aside0.mk H
                            clear H
                            go_wp2
                            go_meet
                            case rel => exact ⟨_, (3), (wrap64 ((wrap64 (bt a0 a1)) - 224)), (2048), (by first | rfl | (simp; done) | (simp [*]; done)), (by first | rfl | (simp; done) | (simp [*]; done)), (by first | rfl | (simp; done) | (simp [*]; done)), H', ⟨by have := HJ2.out; have := HJ10.out; have := HJ13.out; first | omega | exact Nat.le_refl _⟩, by repeat (first | exact Drawn0.refl _ | apply Drawn0.step)⟩
                          · replace c16 := Bool.eq_false_iff.mpr c16
                            subst c16
                            have H1 : (if (wrap64 (bt a0 a1)) ≥ 240 then (if (wrap64 (bt a0 a1)) < 248 then (fastiref01_Width.j3 kj13 a0 a1 4 (wrap64 ((wrap64 (bt a0 a1)) - 240)) 65536) else (some 0)) else (some 0)) = some r := by rw [if_neg (show ¬ (false = true) by decide)] at H; exact H
                            clear H
                            have H := H1
                            clear H1
                            by_cases c17 : (wrap64 (bt a0 a1)) ≥ 240
                            · rw [if_pos c17] at H
                              have c17b0 : decide (240 ≤ (wrap64 (bt a0 a1))) = true := decide_eq_true c17
                              clear c17
                              by_cases c18 : (wrap64 (bt a0 a1)) < 248
                              · rw [if_pos c18] at H
                                have c18b0 : decide ((wrap64 (bt a0 a1)) < 248) = true := decide_eq_true c18
                                clear c18
                                have H' := Aside0.mk H
                                clear H
                                go_wp2
                                go_meet
                                case rel => exact ⟨_, (4), (wrap64 ((wrap64 (bt a0 a1)) - 240)), (65536), (by first | rfl | (simp; done) | (simp [*]; done)), (by first | rfl | (simp; done) | (simp [*]; done)), (by first | rfl | (simp; done) | (simp [*]; done)), H', ⟨by have := HJ2.out; have := HJ10.out; have := HJ13.out; first | omega | exact Nat.le_refl _⟩, by repeat (first | exact Drawn0.refl _ | apply Drawn0.step)⟩
                              · rw [if_neg c18] at H
                                have c18b0 : decide ((wrap64 (bt a0 a1)) < 248) = false := decide_eq_false c18
                                clear c18
                                obtain rfl := Option.some.inj H
                                go_wp2
                                go_ret
                                exact ⟨by first | rfl | (simp; done) | (simp [*]; done), by repeat (first | exact Drawn0.refl _ | apply Drawn0.step)⟩
                            · rw [if_neg c17] at H
                              have c17b0 : decide (240 ≤ (wrap64 (bt a0 a1))) = false := decide_eq_false c17
                              clear c17
                              obtain rfl := Option.some.inj H
                              go_wp2
                              go_ret
                              exact ⟨by first | rfl | (simp; done) | (simp [*]; done), by repeat (first | exact Drawn0.refl _ | apply Drawn0.step)⟩
            case rest =>
              clear HC9
              try clear c1
              try clear c2
              try clear p2
              try clear c4
              try clear c4b0
              try clear c5
              try clear c6
              try clear c6b0
              try clear p6
              try clear c7
              try clear c7b0
              try clear c8
              try clear p8
              try clear q8
              try clear hx8
              try clear c10
              try clear c10b0
              try clear c12
              try clear c12b0
              try clear c13
              try clear c15
              try clear c15b0
              try clear c16
              try clear c17
              try clear c17b0
              try clear c18
              try clear c18b0
              try clear p2
              try clear p6
              try clear p8
              try clear q8
              obtain ⟨kq, x6_8, x7_8, x8_8, rfl, rfl, rfl, HA, HJ8, ⟨mc8, rfl⟩⟩ := hcut
              cases kq with
              | zero => exact absurd HA.out (by simp [fastiref01_Width.j3])
              | succ kj8 =>
                have H := HA.out
                clear HA
                simp only [fastiref01_Width.j3] at H
                have H' := Aside0.mk H
                clear H
                go_wp2
                go_loopg [7, 9] kj8 (fun kq v7 v9 w' => ∃ (x7_3 : Int) (x9_3 : Int), v7 = .int .i64 x7_3 ∧ v9 = .int .i64 x9_3 ∧ Aside0 (fastiref01_Width.l0 kq a0 a1 x6_8 x7_3 x8_8 x9_3 = some r) ∧ Aside0 (kq ≤ kj8) ∧ Drawn0 w w')
                case atStart => exact ⟨(x7_8), (1), (by first | rfl | (simp; done) | (simp [*]; done)), (by first | rfl | (simp; done) | (simp [*]; done)), H', ⟨Nat.le_refl _⟩, by repeat (first | exact Drawn0.refl _ | apply Drawn0.step)⟩
                case round =>
                  clear H'
                  try clear c1
                  try clear c2
                  try clear p2
                  try clear c4
                  try clear c4b0
                  try clear c5
                  try clear c6
                  try clear c6b0
                  try clear p6
                  try clear c7
                  try clear c7b0
                  try clear c8
                  try clear p8
                  try clear q8
                  try clear hx8
                  try clear c10
                  try clear c10b0
                  try clear c12
                  try clear c12b0
                  try clear c13
                  try clear c15
                  try clear c15b0
                  try clear c16
                  try clear c17
                  try clear c17b0
                  try clear c18
                  try clear c18b0
                  try clear p2
                  try clear p6
                  try clear p8
                  try clear q8
                  obtain ⟨x7_3, x9_3, rfl, rfl, HA, HK3, ⟨m3, rfl⟩⟩ := hrel
                  cases gk with
                  | zero => exact absurd HA.out (by simp [fastiref01_Width.l0])
                  | succ k3 =>
                    have H := HA.out
                    clear HA
                    simp only [fastiref01_Width.l0] at H
                    by_cases c19 : x9_3 < x6_8
                    · rw [if_pos c19] at H
                      have c19b0 : decide (x9_3 < x6_8) = true := decide_eq_true c19
                      clear c19
                      by_cases c20 : (wrap64 (a1 + x9_3)) ≥ (a0.size : Int)
                      · rw [if_pos c20] at H
                        have c20b0 : decide ((a0.size : Int) ≤ (wrap64 (a1 + x9_3))) = true := decide_eq_true c20
                        clear c20
                        obtain rfl := Option.some.inj H
                        go_wp2
                        go_ret
                        exact ⟨by first | rfl | (simp; done) | (simp [*]; done), by repeat (first | exact Drawn0.refl _ | apply Drawn0.step)⟩
                      · rw [if_neg c20] at H
                        have c20b0 : decide ((a0.size : Int) ≤ (wrap64 (a1 + x9_3))) = false := decide_eq_false c20
                        clear c20
                        obtain ⟨ji21, hji21⟩ : ∃ j_ : Int, (wrap64 (a1 + x9_3)) = j_ := ⟨_, rfl⟩
                        replace H : (if 0 ≤ (ji21) then (if (ji21) < (a0.size : Int) then (if (wrap64 (Int.tdiv (wrap64 (bt a0 (ji21))) 64)) = 2 then (fastiref01_Width.l0 k3 a0 a1 x6_8 (wrap64 ((wrap64 (64 * x7_3)) + (Int.tmod (wrap64 (bt a0 (ji21))) 64))) x8_8 (wrap64 (x9_3 + 1))) else (some 0)) else (none)) else (none)) = some r := by first | (rw [hji21] at H; exact H) | (simp only [hji21] at H ⊢; exact H)
                        (try rw [hji21] at c20b0)
                        have hji21w : (IntKind.i64.wrap (a1 + x9_3)) = ji21 := (i64_w _).trans hji21
                        by_cases c22 : 0 ≤ (ji21)
                        · rw [if_pos c22] at H
                          have c22b0 : decide (0 ≤ (ji21)) = true := decide_eq_true c22
                          clear c22
                          by_cases c23 : (ji21) < (a0.size : Int)
                          · rw [if_pos c23] at H
                            have c23b0 : decide ((ji21) < (a0.size : Int)) = true := decide_eq_true c23
                            clear c23
                            by_cases c25 : (wrap64 (Int.tdiv (wrap64 (bt a0 (ji21))) 64)) = 2
                            · rw [if_pos c25] at H
                              have c25b0 : ((wrap64 (Int.tdiv (wrap64 (bt a0 (ji21))) 64)) == 2) = true := beq_iff_eq.mpr c25
                              have c25b1 : ((wrap64 (Int.tdiv (wrap64 (bt a0 (ji21))) 64)) != 2) = false := bne_eq_false_iff_eq.mpr c25
                              clear c25
                              have H' := Aside0.mk H
                              clear H
                              have p24 : 0 ≤ ((ji21) : Int) := of_decide_eq_true (by first | (with_reducible assumption) | assumption)
                              have q24 : (ji21) < (a0.size : Int) := of_decide_eq_true (by first | (with_reducible assumption) | assumption)
                              have hx24 := bt_at a0 (ji21)
                              replace p24 := eq_true p24
                              replace q24 := eq_true q24
                              have p26 : 0 ≤ ((ji21) : Int) := of_decide_eq_true (by first | (with_reducible assumption) | assumption)
                              have q26 : (ji21) < (a0.size : Int) := of_decide_eq_true (by first | (with_reducible assumption) | assumption)
                              have hx26 := bt_at a0 (ji21)
                              replace p26 := eq_true p26
                              replace q26 := eq_true q26
                              go_wp2
                              go_roundg k3
                              case measure => have := HJ2.out; have := HJ8.out; have := HK3.out; omega
                              case rel => exact ⟨(wrap64 ((wrap64 (64 * x7_3)) + (Int.tmod (wrap64 (bt a0 (ji21))) 64))), (wrap64 (x9_3 + 1)), (by first | rfl | (simp; done) | (simp only [← hji21] <;> (first | rfl | simp)) | (simp [*]; done)), (by first | rfl | (simp; done) | (simp [*]; done)), H', ⟨by have := HJ2.out; have := HJ8.out; have := HK3.out; omega⟩, by repeat (first | exact Drawn0.refl _ | apply Drawn0.step)⟩
                            · rw [if_neg c25] at H
                              have c25b0 : ((wrap64 (Int.tdiv (wrap64 (bt a0 (ji21))) 64)) == 2) = false := beq_eq_false_iff_ne.mpr c25
                              have c25b1 : ((wrap64 (Int.tdiv (wrap64 (bt a0 (ji21))) 64)) != 2) = true := bne_iff_ne.mpr c25
                              obtain rfl := Option.some.inj H
                              have p24 : 0 ≤ ((ji21) : Int) := of_decide_eq_true (by first | (with_reducible assumption) | assumption)
                              have q24 : (ji21) < (a0.size : Int) := of_decide_eq_true (by first | (with_reducible assumption) | assumption)
                              have hx24 := bt_at a0 (ji21)
                              replace p24 := eq_true p24
                              replace q24 := eq_true q24
                              go_wp2
                              go_ret
                              exact ⟨by first | rfl | (simp; done) | (simp only [← hji21] <;> (first | rfl | simp)) | (simp [*]; done), by repeat (first | exact Drawn0.refl _ | apply Drawn0.step)⟩
                          · rw [if_neg c23] at H
                            exact absurd H (by simp)
                        · rw [if_neg c22] at H
                          exact absurd H (by simp)
                    · rw [if_neg c19] at H
                      have c19b0 : decide (x9_3 < x6_8) = false := decide_eq_false c19
                      clear c19
                      by_cases c27 : x7_3 < x8_8
                      · rw [if_pos c27] at H
                        have c27b0 : decide (x7_3 < x8_8) = true := decide_eq_true c27
                        clear c27
                        obtain rfl := Option.some.inj H
                        go_wp2
                        go_ret
                        exact ⟨by first | rfl | (simp; done) | (simp [*]; done), by repeat (first | exact Drawn0.refl _ | apply Drawn0.step)⟩
                      · rw [if_neg c27] at H
                        have c27b0 : decide (x7_3 < x8_8) = false := decide_eq_false c27
                        clear c27
                        by_cases c28 : x7_3 ≥ 55296
                        · rw [if_pos c28] at H
                          have c28b0 : decide (55296 ≤ x7_3) = true := decide_eq_true c28
                          clear c28
                          by_cases c29 : x7_3 < 57344
                          · rw [if_pos c29] at H
                            have c29b0 : decide (x7_3 < 57344) = true := decide_eq_true c29
                            clear c29
                            obtain rfl := Option.some.inj H
                            go_wp2
                            go_ret
                            exact ⟨by first | rfl | (simp; done) | (simp [*]; done), by repeat (first | exact Drawn0.refl _ | apply Drawn0.step)⟩
                          · rw [if_neg c29] at H
                            have c29b0 : decide (x7_3 < 57344) = false := decide_eq_false c29
                            clear c29
                            by_cases c30 : x7_3 > 1114111
                            · rw [if_pos c30] at H
                              have c30b0 : decide (1114111 < x7_3) = true := decide_eq_true c30
                              clear c30
                              obtain rfl := Option.some.inj H
                              go_wp2
                              go_ret
                              exact ⟨by first | rfl | (simp; done) | (simp [*]; done), by repeat (first | exact Drawn0.refl _ | apply Drawn0.step)⟩
                            · rw [if_neg c30] at H
                              have c30b0 : decide (1114111 < x7_3) = false := decide_eq_false c30
                              clear c30
                              obtain rfl := Option.some.inj H
                              go_wp2
                              go_ret
                              exact ⟨by first | rfl | (simp; done) | (simp [*]; done), by repeat (first | exact Drawn0.refl _ | apply Drawn0.step)⟩
                        · rw [if_neg c28] at H
                          have c28b0 : decide (55296 ≤ x7_3) = false := decide_eq_false c28
                          clear c28
                          by_cases c31 : x7_3 > 1114111
                          · rw [if_pos c31] at H
                            have c31b0 : decide (1114111 < x7_3) = true := decide_eq_true c31
                            clear c31
                            obtain rfl := Option.some.inj H
                            go_wp2
                            go_ret
                            exact ⟨by first | rfl | (simp; done) | (simp [*]; done), by repeat (first | exact Drawn0.refl _ | apply Drawn0.step)⟩
                          · rw [if_neg c31] at H
                            have c31b0 : decide (1114111 < x7_3) = false := decide_eq_false c31
                            clear c31
                            obtain rfl := Option.some.inj H
                            go_wp2
                            go_ret
                            exact ⟨by first | rfl | (simp; done) | (simp [*]; done), by repeat (first | exact Drawn0.refl _ | apply Drawn0.step)⟩
          · rw [if_neg c7] at H
            exact absurd H (by simp)
        · rw [if_neg c6] at H
          exact absurd H (by simp)

/-! ### fastiref01_Runes: function 70 -/
def fastiref01_Runes.l0 : Nat → ByteArray → Int → Int → Option (Int)
  | 0, _, _, _ => none
  | k + 1, x0, x3, x4 => if x4 < (x0.size : Int) then ((fastiref01_Width.f k x0 x4).bind fun t145 => (if t145 = 0 then (some (-1)) else (fastiref01_Runes.l0 k x0 (wrap64 (x3 + 1)) (wrap64 (x4 + t145))))) else (some x3)
def fastiref01_Runes.f (k : Nat) (a0 : ByteArray) : Option (Int) := fastiref01_Runes.l0 k a0 0 0
set_option maxHeartbeats 8000000 in
set_option maxRecDepth 100000 in
theorem fastiref01_Runes.calls (k : Nat) (a0 : ByteArray) (r : Int) (w : World) (h : fastiref01_Runes.f k a0 = some r) :
    Calls Tryz.prog 70 #[.string a0] w fun e w' => e = .returned (.int .i64 r) ∧ Drawn0 w w' := by
  have H : (fastiref01_Runes.l0 k a0 0 0) = some r := h
  clear h
  have H' := Aside0.mk H
  clear H
  go_enter Tryz.func70, Tryz.ntmps70
  go_wp2
  go_loopg [3, 4] k (fun kq v3 v4 w' => ∃ (x3_1 : Int) (x4_1 : Int), v3 = .int .i64 x3_1 ∧ v4 = .int .i64 x4_1 ∧ Aside0 (fastiref01_Runes.l0 kq a0 x3_1 x4_1 = some r) ∧ Aside0 (kq ≤ k) ∧ Drawn0 w w')
  case atStart => exact ⟨(0), (0), (by first | rfl | (simp; done) | (simp [*]; done)), (by first | rfl | (simp; done) | (simp [*]; done)), H', ⟨Nat.le_refl _⟩, by repeat (first | exact Drawn0.refl _ | apply Drawn0.step)⟩
  case round =>
    clear H'
    obtain ⟨x3_1, x4_1, rfl, rfl, HA, HK1, ⟨m1, rfl⟩⟩ := hrel
    cases gk with
    | zero => exact absurd HA.out (by simp [fastiref01_Runes.l0])
    | succ k1 =>
      have H := HA.out
      clear HA
      simp only [fastiref01_Runes.l0] at H
      by_cases c2 : x4_1 < (a0.size : Int)
      · rw [if_pos c2] at H
        have c2b0 : decide (x4_1 < (a0.size : Int)) = true := decide_eq_true c2
        clear c2
        replace H := Option.bind_eq_some_iff.mp H
        obtain ⟨t145, A30, H⟩ := H
        replace H : (if t145 = 0 then (some (-1)) else (fastiref01_Runes.l0 k1 a0 (wrap64 (x3_1 + 1)) (wrap64 (x4_1 + t145)))) = some r := H
        have A3 := Aside0.mk A30
        clear A30
        by_cases c4 : t145 = 0
        · rw [if_pos c4] at H
          have c4b0 : (t145 == 0) = true := beq_iff_eq.mpr c4
          have c4b1 : (t145 != 0) = false := bne_eq_false_iff_eq.mpr c4
          clear c4
          obtain rfl := Option.some.inj H
          go_wp2_with (first | ((with_reducible refine gate_callee (f := 82) rfl ?_); refine goesL_ (some 12) rfl rfl Tryz.func82 (by kernel_rfl) rfl #[.string a0, .int .i64 x4_1] rfl (by (try simp only [List.map_toArray, List.map_cons, List.map_nil]); first | done | rfl | (simp only [List.length_drop, List.length_take]; rfl)) ?_; (with_reducible refine (fastiref01_Width.calls k1 a0 x4_1 t145 _ A3.out).mono ?_); rintro e w' ⟨rfl, ⟨nd, rfl⟩⟩; refine ⟨_, rfl, ?_⟩))
          go_ret
          exact ⟨by first | rfl | (simp; done) | (simp [*]; done), by repeat (first | exact Drawn0.refl _ | apply Drawn0.step)⟩
        · rw [if_neg c4] at H
          have c4b0 : (t145 == 0) = false := beq_eq_false_iff_ne.mpr c4
          have c4b1 : (t145 != 0) = true := bne_iff_ne.mpr c4
          have H' := Aside0.mk H
          clear H
          go_wp2_with (first | ((with_reducible refine gate_callee (f := 82) rfl ?_); refine goesL_ (some 12) rfl rfl Tryz.func82 (by kernel_rfl) rfl #[.string a0, .int .i64 x4_1] rfl (by (try simp only [List.map_toArray, List.map_cons, List.map_nil]); first | done | rfl | (simp only [List.length_drop, List.length_take]; rfl)) ?_; (with_reducible refine (fastiref01_Width.calls k1 a0 x4_1 t145 _ A3.out).mono ?_); rintro e w' ⟨rfl, ⟨nd, rfl⟩⟩; refine ⟨_, rfl, ?_⟩))
          go_roundg k1
          case measure => have := HK1.out; omega
          case rel => exact ⟨(wrap64 (x3_1 + 1)), (wrap64 (x4_1 + t145)), (by first | rfl | (simp; done) | (simp [*]; done)), (by first | rfl | (simp; done) | (simp [*]; done)), H', ⟨by have := HK1.out; omega⟩, by repeat (first | exact Drawn0.refl _ | apply Drawn0.step)⟩
      · rw [if_neg c2] at H
        have c2b0 : decide (x4_1 < (a0.size : Int)) = false := decide_eq_false c2
        clear c2
        obtain rfl := Option.some.inj H
        go_wp2
        go_ret
        exact ⟨by first | rfl | (simp; done) | (simp [*]; done), by repeat (first | exact Drawn0.refl _ | apply Drawn0.step)⟩

end Go.Proofs.YtgjlchcfdbmmlaaGreatDoor.PObjectPuts
namespace Go.Proofs.YtgjlchcfdbmmlaaGreatDoor.PObjectPuts
open Go.RowKit Go.Proofs.YtgjlchcfdbmmlaaGreatDoor.Ord Go.Proofs.YtgjlchcfdbmmlaaGreatDoor.Obj Go.Proofs.YtgjlchcfdbmmlaaGreatDoorW.PrintWords Go.Proofs.YtgjlchcfdbmmlaaGreatDoorW.PrintLast Go.Proofs.YtgjlchcfdbmmlaaGreatDoorW.PrintMore

theorem w64 {x : Int} (h0 : 0 ≤ x) (h1 : x ≤ 9223372036854775807) : wrap64 x = x := by unfold wrap64; omega
theorem td64 (g : Nat) : Int.tdiv (g : Int) 64 = ((g / 64 : Nat) : Int) := rfl
theorem tm64 (g : Nat) : Int.tmod (g : Int) 64 = ((g % 64 : Nat) : Int) := rfl
theorem bt_gb {s : ByteArray} {i : Nat} {z : Int} (hz : z = (i : Int)) (h : i < s.size) : wrap64 (bt s z) = (gb s i : Int) := by
  subst hz
  have hb := gb_lt s i
  have : bt s (i : Int) = (gb s i : Int) := by
    unfold bt gb
    rw [Int.toNat_natCast, dif_pos h]
    congr 2
    simp only [ByteArray.get!, ByteArray.getElem_eq_getElem_data]
    rw [getElem!_pos s.data i h]
  rw [this]
  unfold wrap64
  omega
theorem wl_end {s : ByteArray} {i n c least m : Nat} (h : ¬ m < n) : Ev (fun k => fastiref01_Width.l0 k s (i : Int) (n : Int) (c : Int) (least : Int) (m : Int)) (if okC c least then (n : Int) else 0) := by
  refine Ev.step (f := fun _ => some (if okC c least then (n : Int) else 0)) (fun k => ?_) (Ev.now _)
  rw [fastiref01_Width.l0, if_neg (by omega)]
  unfold okC
  by_cases h1 : c < least
  · rw [if_pos (by omega), decide_eq_true h1]; rfl
  · rw [if_neg (by omega), decide_eq_false h1]
    by_cases h2 : 55296 ≤ c
    · rw [if_pos (by omega), decide_eq_true h2]
      by_cases h3 : c < 57344
      · rw [if_pos (by omega), decide_eq_true h3]; rfl
      · rw [if_neg (by omega), decide_eq_false h3]
        by_cases h4 : 1114111 < c
        · rw [if_pos (by omega), decide_eq_true h4]; rfl
        · rw [if_neg (by omega), decide_eq_false h4]; rfl
    · rw [if_neg (by omega), decide_eq_false h2]
      by_cases h4 : 1114111 < c
      · rw [if_pos (by omega), decide_eq_true h4]; rfl
      · rw [if_neg (by omega), decide_eq_false h4]; rfl
theorem wl_no {s : ByteArray} {i n c least m : Nat} (h : m < n) (hi : i + m ≤ 1000000) (hc : contB s (i + m) = false) : Ev (fun k => fastiref01_Width.l0 k s (i : Int) (n : Int) (c : Int) (least : Int) (m : Int)) 0 := by
  refine Ev.step (f := fun _ => some 0) (fun k => ?_) (Ev.now _)
  have w : wrap64 ((i : Int) + (m : Int)) = ((i + m : Nat) : Int) := by unfold wrap64; omega
  rw [fastiref01_Width.l0, if_pos (by omega), w]
  by_cases hs : s.size ≤ i + m
  · rw [if_pos (by omega)]
  · have hg := bt_gb (s := s) (i := i + m) rfl (by omega)
    have hb := gb_lt s (i + m)
    rw [if_neg (by omega), if_pos (by omega), if_pos (by omega), hg, if_neg]
    intro e
    unfold contB at hc
    rw [decide_eq_true (by omega), Bool.true_and, beq_eq_false_iff_ne] at hc
    rw [td64, w64 (by omega) (by omega)] at e
    exact hc (by omega)
theorem wl_yes {s : ByteArray} {i n c least m : Nat} {r : Int} (h : m < n) (hi : i + m ≤ 1000000) (hcb : c ≤ 1000000000) (hc : contB s (i + m) = true) (k : Ev (fun k => fastiref01_Width.l0 k s (i : Int) (n : Int) ((64 * c + gb s (i + m) % 64 : Nat) : Int) (least : Int) ((m + 1 : Nat) : Int)) r) :
    Ev (fun k => fastiref01_Width.l0 k s (i : Int) (n : Int) (c : Int) (least : Int) (m : Int)) r := by
  unfold contB at hc
  rw [Bool.and_eq_true, decide_eq_true_eq, beq_iff_eq] at hc
  refine Ev.step (f := fun k => fastiref01_Width.l0 k s (i : Int) (n : Int) ((64 * c + gb s (i + m) % 64 : Nat) : Int) (least : Int) ((m + 1 : Nat) : Int)) (fun k => ?_) k
  have w : wrap64 ((i : Int) + (m : Int)) = ((i + m : Nat) : Int) := by unfold wrap64; omega
  have hg := bt_gb (s := s) (i := i + m) rfl hc.1
  have hb := gb_lt s (i + m)
  rw [fastiref01_Width.l0, if_pos (by omega), w, if_neg (by omega), if_pos (by omega), if_pos (by omega), hg, if_pos]
  · have w1 : wrap64 ((m : Int) + 1) = ((m + 1 : Nat) : Int) := by unfold wrap64; omega
    have w2 : wrap64 (wrap64 (64 * (c : Int)) + Int.tmod ((gb s (i + m) : Nat) : Int) 64) = ((64 * c + gb s (i + m) % 64 : Nat) : Int) := by
      rw [tm64, w64 (x := 64 * (c : Int)) (by omega) (by omega), w64 (by omega) (by omega)]
      omega
    rw [w1, w2]
  · rw [td64, w64 (by omega) (by omega)]
    omega
theorem width_ev (s : ByteArray) (i : Nat) (hs : s.size ≤ 100000) : Ev (fun k => fastiref01_Width.f k s (i : Int)) (widthN s i : Int) := by
  unfold widthN
  refine Ev.congr (f := fun k => fastiref01_Width.j0 k s (i : Int) (decide ((i : Int) ≥ (s.size : Int)))) (fun k => by unfold fastiref01_Width.f; rw [if_neg (by omega)]) ?_
  by_cases h0 : s.size ≤ i
  · rw [if_pos h0, decide_eq_true (by omega)]
    exact Ev.step (f := fun _ => some 0) (fun k => by rw [fastiref01_Width.j0, if_pos rfl]) (Ev.now _)
  · rw [if_neg h0, decide_eq_false (by omega)]
    have hg := bt_gb (s := s) (i := i) rfl (by omega)
    have hb := gb_lt s i
    have e1 : ∀ k, fastiref01_Width.j0 (k + 1) s (i : Int) false = if ((gb s i : Nat) : Int) < 128 then some 1 else if ((gb s i : Nat) : Int) ≥ 192 then fastiref01_Width.j1 k s (i : Int) (gb s i : Int) (decide (((gb s i : Nat) : Int) < 224)) else fastiref01_Width.j1 k s (i : Int) (gb s i : Int) false := fun k => by
      rw [fastiref01_Width.j0, if_neg (by decide), if_pos (by omega), if_pos (by omega), hg]
    by_cases a1 : gb s i < 128
    · rw [if_pos a1]
      exact Ev.step (f := fun _ => some 1) (fun k => by rw [e1, if_pos (by omega)]) (Ev.now _)
    rw [if_neg a1]
    by_cases a2 : 192 ≤ gb s i ∧ gb s i < 224
    · rw [if_pos a2]
      have w : wrap64 ((gb s i : Int) - 192) = ((gb s i - 192 : Nat) : Int) := by unfold wrap64; omega
      refine Ev.step (f := fun k => fastiref01_Width.j1 k s (i : Int) (gb s i : Int) true) (fun k => by rw [e1, if_neg (by omega), if_pos (by omega), decide_eq_true (by omega)]) ?_
      refine Ev.step (f := fun k => fastiref01_Width.j3 k s (i : Int) 2 ((gb s i - 192 : Nat) : Int) 128) (fun k => by rw [fastiref01_Width.j1, if_pos rfl, w]) ?_
      refine Ev.step (f := fun k => fastiref01_Width.l0 k s (i : Int) ((2 : Nat) : Int) ((gb s i - 192 : Nat) : Int) ((128 : Nat) : Int) ((1 : Nat) : Int)) (fun k => by rw [fastiref01_Width.j3]; rfl) ?_
      cases k1 : contB s (i + 1) with
      | false => exact wl_no (by decide) (by omega) k1
      | true =>
        refine wl_yes (by decide) (by omega) (by omega) k1 ?_
        have := wl_end (s := s) (i := i) (n := 2) (c := 64 * (gb s i - 192) + gb s (i + 1) % 64) (least := 128) (m := 2) (by decide)
        rw [show (gb s i - 192) * 64 + gb s (i + 1) % 64 = 64 * (gb s i - 192) + gb s (i + 1) % 64 by omega, Bool.true_and]
        refine Ev.congr (fun _ => rfl) ?_
        cases hk : okC (64 * (gb s i - 192) + gb s (i + 1) % 64) 128 <;> (rw [hk] at this; exact this)
    rw [if_neg a2]
    by_cases a3 : 224 ≤ gb s i ∧ gb s i < 240
    · rw [if_pos a3]
      have w : wrap64 ((gb s i : Int) - 224) = ((gb s i - 224 : Nat) : Int) := by unfold wrap64; omega
      refine Ev.step (f := fun k => fastiref01_Width.j1 k s (i : Int) (gb s i : Int) false) (fun k => by rw [e1, if_neg (by omega), if_pos (by omega), decide_eq_false (by omega)]) ?_
      refine Ev.step (f := fun k => fastiref01_Width.j2 k s (i : Int) (gb s i : Int) true) (fun k => by rw [fastiref01_Width.j1, if_neg (by decide), if_pos (by omega), decide_eq_true (by omega)]) ?_
      refine Ev.step (f := fun k => fastiref01_Width.j3 k s (i : Int) 3 ((gb s i - 224 : Nat) : Int) 2048) (fun k => by rw [fastiref01_Width.j2, if_pos rfl, w]) ?_
      refine Ev.step (f := fun k => fastiref01_Width.l0 k s (i : Int) ((3 : Nat) : Int) ((gb s i - 224 : Nat) : Int) ((2048 : Nat) : Int) ((1 : Nat) : Int)) (fun k => by rw [fastiref01_Width.j3]; rfl) ?_
      cases k1 : contB s (i + 1) with
      | false => exact wl_no (by decide) (by omega) k1
      | true =>
        refine wl_yes (by decide) (by omega) (by omega) k1 ?_
        cases k2 : contB s (i + 2) with
        | false => exact wl_no (by decide) (by omega) k2
        | true =>
          refine wl_yes (by decide) (by omega) (by omega) k2 ?_
          have := wl_end (s := s) (i := i) (n := 3) (c := 64 * (64 * (gb s i - 224) + gb s (i + 1) % 64) + gb s (i + 2) % 64) (least := 2048) (m := 3) (by decide)
          rw [show (gb s i - 224) * 4096 + gb s (i + 1) % 64 * 64 + gb s (i + 2) % 64 = 64 * (64 * (gb s i - 224) + gb s (i + 1) % 64) + gb s (i + 2) % 64 by omega, Bool.true_and, Bool.true_and]
          refine Ev.congr (fun _ => rfl) ?_
          cases hk : okC (64 * (64 * (gb s i - 224) + gb s (i + 1) % 64) + gb s (i + 2) % 64) 2048 <;> (rw [hk] at this; exact this)
    rw [if_neg a3]
    by_cases a4 : 240 ≤ gb s i ∧ gb s i < 248
    · rw [if_pos a4]
      have w : wrap64 ((gb s i : Int) - 240) = ((gb s i - 240 : Nat) : Int) := by unfold wrap64; omega
      refine Ev.step (f := fun k => fastiref01_Width.j1 k s (i : Int) (gb s i : Int) false) (fun k => by rw [e1, if_neg (by omega), if_pos (by omega), decide_eq_false (by omega)]) ?_
      refine Ev.step (f := fun k => fastiref01_Width.j2 k s (i : Int) (gb s i : Int) false) (fun k => by rw [fastiref01_Width.j1, if_neg (by decide), if_pos (by omega), decide_eq_false (by omega)]) ?_
      refine Ev.step (f := fun k => fastiref01_Width.j3 k s (i : Int) 4 ((gb s i - 240 : Nat) : Int) 65536) (fun k => by rw [fastiref01_Width.j2, if_neg (by decide), if_pos (by omega), if_pos (by omega), w]) ?_
      refine Ev.step (f := fun k => fastiref01_Width.l0 k s (i : Int) ((4 : Nat) : Int) ((gb s i - 240 : Nat) : Int) ((65536 : Nat) : Int) ((1 : Nat) : Int)) (fun k => by rw [fastiref01_Width.j3]; rfl) ?_
      cases k1 : contB s (i + 1) with
      | false => exact wl_no (by decide) (by omega) k1
      | true =>
        refine wl_yes (by decide) (by omega) (by omega) k1 ?_
        cases k2 : contB s (i + 2) with
        | false => exact wl_no (by decide) (by omega) k2
        | true =>
          refine wl_yes (by decide) (by omega) (by omega) k2 ?_
          cases k3 : contB s (i + 3) with
          | false => exact wl_no (by decide) (by omega) k3
          | true =>
            refine wl_yes (by decide) (by omega) (by omega) k3 ?_
            have := wl_end (s := s) (i := i) (n := 4) (c := 64 * (64 * (64 * (gb s i - 240) + gb s (i + 1) % 64) + gb s (i + 2) % 64) + gb s (i + 3) % 64) (least := 65536) (m := 4) (by decide)
            rw [show (gb s i - 240) * 262144 + gb s (i + 1) % 64 * 4096 + gb s (i + 2) % 64 * 64 + gb s (i + 3) % 64 = 64 * (64 * (64 * (gb s i - 240) + gb s (i + 1) % 64) + gb s (i + 2) % 64) + gb s (i + 3) % 64 by omega, Bool.true_and, Bool.true_and, Bool.true_and]
            refine Ev.congr (fun _ => rfl) ?_
            cases hk : okC (64 * (64 * (64 * (gb s i - 240) + gb s (i + 1) % 64) + gb s (i + 2) % 64) + gb s (i + 3) % 64) 65536 <;> (rw [hk] at this; exact this)
    rw [if_neg a4]
    by_cases a5 : 192 ≤ gb s i
    · refine Ev.step (f := fun k => fastiref01_Width.j1 k s (i : Int) (gb s i : Int) false) (fun k => by rw [e1, if_neg (by omega), if_pos (by omega), decide_eq_false (by omega)]) ?_
      refine Ev.step (f := fun k => fastiref01_Width.j2 k s (i : Int) (gb s i : Int) false) (fun k => by rw [fastiref01_Width.j1, if_neg (by decide), if_pos (by omega), decide_eq_false (by omega)]) ?_
      exact Ev.step (f := fun _ => some 0) (fun k => by rw [fastiref01_Width.j2, if_neg (by decide), if_pos (by omega), if_neg (by omega)]) (Ev.now _)
    · refine Ev.step (f := fun k => fastiref01_Width.j1 k s (i : Int) (gb s i : Int) false) (fun k => by rw [e1, if_neg (by omega), if_neg (by omega)]) ?_
      refine Ev.step (f := fun k => fastiref01_Width.j2 k s (i : Int) (gb s i : Int) false) (fun k => by rw [fastiref01_Width.j1, if_neg (by decide), if_neg (by omega)]) ?_
      exact Ev.step (f := fun _ => some 0) (fun k => by rw [fastiref01_Width.j2, if_neg (by decide), if_neg (by omega)]) (Ev.now _)
end Go.Proofs.YtgjlchcfdbmmlaaGreatDoor.PObjectPuts
namespace Go.Proofs.YtgjlchcfdbmmlaaGreatDoor.PObjectPuts
open Go.RowKit Go.Proofs.YtgjlchcfdbmmlaaGreatDoor.Ord Go.Proofs.YtgjlchcfdbmmlaaGreatDoor.Obj Go.Proofs.YtgjlchcfdbmmlaaGreatDoorW.PrintWords Go.Proofs.YtgjlchcfdbmmlaaGreatDoorW.PrintLast Go.Proofs.YtgjlchcfdbmmlaaGreatDoorW.PrintMore
attribute [local irreducible] OpGives

theorem eqR_run (d : Nat) (w : World) (x0 y0 x1 y1 x2 y2 x3 y3 : Int) (x4 y4 : ByteArray) :
    (Op.equalIn (d + 3) 50 (.agg #[.int .i64 x0, .int .i64 x1, .int .i64 x2, .int .i64 x3, .string x4]) (.agg #[.int .i64 y0, .int .i64 y1, .int .i64 y2, .int .i64 y3, .string y4])).run Tryz.prog w = .ok (x0 == y0 && (x1 == y1 && ((x2 == y2 && (x3 == y3 && (x4.toList == y4.toList)))))) w := by
  refine eqA_of Tryz.underlying50 (by kernel_rfl) ?_
  refine eqf_cons (by rfl) (by go_simp; rfl) (by go_simp; rfl) (by go_simp) ?_
  refine eqf_cons (by rfl) (by go_simp; rfl) (by go_simp; rfl) (by go_simp) ?_
  exact eqf_last (by rfl) (by go_simp) (by go_simp) (eqV_run (d + 0) w _ _ _ _ _ _)
theorem eqK_run (d : Nat) (w : World) (x0 y0 : Int) (x1 y1 : ByteArray) :
    (Op.equalIn (d + 2) 52 (.agg #[.int .u8 x0, .string x1]) (.agg #[.int .u8 y0, .string y1])).run Tryz.prog w = .ok (x0 == y0 && (x1.toList == y1.toList)) w := by
  refine eqA_of Tryz.underlying52 (by kernel_rfl) ?_
  refine eqf_cons (by rfl) (by go_simp; rfl) (by go_simp; rfl) (by go_simp) ?_
  exact eqf_last (by rfl) (by go_simp; rfl) (by go_simp; rfl) (by go_simp)
attribute [local go_sem high] eqR_run eqK_run
set_option maxHeartbeats 8000000 in
set_option maxRecDepth 100000 in
theorem same02_self (l : List S50) (A : Option Addr) (c : Nat) (A' : Option Addr) (c' : Nat) (w : World) (h : Kd.C k50 w A l.length l) (h' : Kd.C k50 w A' l.length l) :
    Calls Tryz.prog 31 #[.slice A l.length c, .slice A' l.length c'] w fun e w' => e = .returned (.bool true) ∧ Below w.heap.size w w' := by
  have HA := Lib.hid h
  have HA' := Lib.hid h'
  have hmx := h.2.1
  clear h h'
  go_enter Tryz.func31, Tryz.ntmps31
  go_wp2_with fail
  go_loopw [5] (fun v wr => ∃ i : Nat, v = .int .i64 (i : Int) ∧ i ≤ l.length ∧ Below w.heap.size w wr) (fun v _ => l.length - (intOf v).toNat)
  case atStart => exact ⟨0, rfl, Nat.zero_le _, Below.refl _ _⟩
  case round =>
    obtain ⟨i, rfl, hi, hbe⟩ := hrel
    have HBE := Lib.hid hbe
    by_cases hil : i < l.length
    · obtain ⟨x, hx⟩ : ∃ x, l[i]? = some x := ⟨_, List.getElem?_eq_getElem hil⟩
      obtain ⟨ad, rfl, c0, c1, c2, c3, c4, hbk⟩ := row_at (Kd.C_below HA.out hbe) hx
      obtain ⟨ad', rfl, d0, d1, d2, d3, d4, hbk'⟩ := row_at (Kd.C_below HA'.out hbe) hx
      clear hx hbe
      go_wp2_with fail
      go_quiet (fail)
      go_wp2_with fail
      go_roundw
      case rel => exact ⟨i + 1, by go_num, hil, pw_below_drewN HBE.out _⟩
      case measure => simp [intOf]; omega
    · clear hbe
      go_wp2_with fail
      go_ret
      exact ⟨rfl, HBE.out⟩
set_option maxHeartbeats 8000000 in
set_option maxRecDepth 100000 in
theorem same07_calls (o : Ob) (Ar : Option Addr) (cr : Nat) (Ak : Option Addr) (ck : Nat) (Ap : Option Addr) (cp : Nat) (Ar' : Option Addr) (cr' : Nat) (Ak' : Option Addr) (ck' : Nat) (Ap' : Option Addr) (cp' : Nat) (w : World) (h : ObAt w o Ar cr Ak ck Ap cp) (h' : ObAt w o Ar' cr' Ak' ck' Ap' cp') :
    Calls Tryz.prog 16 #[.agg (obV o Ar cr Ak ck Ap cp), .agg (obV o Ar' cr' Ak' ck' Ap' cp')] w fun e w' => e = .returned (.bool true) ∧ Below w.heap.size w w' := by
  obtain ⟨W1, hW1⟩ : ∃ W1, W1 = w.alloc (.cells (obV o Ar cr Ak ck Ap cp) 27) := ⟨_, rfl⟩
  obtain ⟨W2, hW2⟩ : ∃ W2, W2 = W1.alloc (.cells (obV o Ar' cr' Ak' ck' Ap' cp') 27) := ⟨_, rfl⟩
  have hn1 : Below w.heap.size w W1 := by rw [hW1]; exact (Below.refl _ _).alloc (Nat.le_refl _) _
  have hn2 : Below W1.heap.size W1 W2 := by rw [hW2]; exact (Below.refl _ _).alloc (Nat.le_refl _) _
  have hg1 : W1.heap[w.heap.size]? = some (.cells (obV o Ar cr Ak ck Ap cp) 27 (0, 0)) := by rw [hW1]; exact alloc_lastV _ _
  have hg2 : W2.heap[W1.heap.size]? = some (.cells (obV o Ar' cr' Ak' ck' Ap' cp') 27 (0, 0)) := by rw [hW2]; exact alloc_lastV _ _
  have hb2 : Below w.heap.size w W2 := hn1.trans (hn2.mono hn1.size)
  have hg12 := (hn2.block _ (Array.getElem?_eq_some_iff.1 hg1).1).trans hg1
  have HO := Lib.hid (h.below hb2)
  have HO' := Lib.hid (h'.below hb2)
  have HB := Lib.hid hb2
  have HG := Lib.hid (And.intro hg12 hg2)
  have hs1 : W1.heap.size = w.heap.size + 1 := by rw [hW1]; simp
  have hmk := h.k.2.1
  have hmp := h.p.2.1
  have HR := Lib.hid (same02_self o.rows Ar cr Ar' cr' W2 (h.below hb2).r (h'.below hb2).r)
  clear h h' hn1 hn2 hb2
  unfold obV at hW1 hW2 hg12 hg2 HG ⊢
  obtain ⟨⟨b0, b1, b2, b3⟩, b4, b5, b6, b7⟩ := box8 hg12
  obtain ⟨⟨d0, d1, d2, d3⟩, d4, d5, d6, d7⟩ := box8 hg2
  clear hg1 hg2 hg12
  rw [hs1] at d0 d1 d2 d3 d4 d5 d6 d7
  rw [hW2, hW1] at b0 b1 b2 b3 b4 b5 b6 b7 d0 d1 d2 d3 d4 d5 d6 d7
  have HW := Lib.hid (show W2 = _ by rw [hW2, hW1])
  have HS1 := Lib.hid hs1
  clear hW1 hW2 hs1
  go_enter Tryz.func16, Tryz.ntmps16
  go_wp2_with fail
  rw [← HW.out]
  clear b0 b1 b2 b3 b4 b5 b6 b7 d0 d1 d2 d3 d4 d5 d6 d7
  refine HR.out.mono ?_
  rintro e W3 ⟨rfl, hb3⟩
  have HB3 := Lib.hid (HB.out.trans (hb3.mono HB.out.size))
  have HO3 := Lib.hid (HO.out.below hb3)
  have HO3' := Lib.hid (HO'.out.below hb3)
  have HG3 := Lib.hid (And.intro ((hb3.block _ (Array.getElem?_eq_some_iff.1 HG.out.1).1).trans HG.out.1) ((hb3.block _ (Array.getElem?_eq_some_iff.1 HG.out.2).1).trans HG.out.2))
  obtain ⟨⟨b0, b1, b2, b3⟩, b4, b5, b6, b7⟩ := box8 HG3.out.1
  obtain ⟨⟨d0, d1, d2, d3⟩, d4, d5, d6, d7⟩ := box8 HG3.out.2
  rw [HS1.out] at d0 d1 d2 d3 d4 d5 d6 d7
  clear hb3
  go_wp2_with fail
  clear b0 b1 b2 b3 b4 b5 b6 b7 d0 d1 d2 d3 d4 d5 d6 d7
  go_loopw [5] (fun v wr => ∃ i : Nat, v = .int .i64 (i : Int) ∧ i ≤ o.kids.length ∧ Below W3.heap.size W3 wr) (fun v _ => o.kids.length - (intOf v).toNat)
  case atStart => exact ⟨0, rfl, Nat.zero_le _, Below.refl _ _⟩
  case round =>
    obtain ⟨i, rfl, hi, hbe⟩ := hrel
    have HBE := Lib.hid hbe
    have b3 := (box8 ((hbe.block _ (Array.getElem?_eq_some_iff.1 HG3.out.1).1).trans HG3.out.1)).1.2.2.2
    have b4 := (box8 ((hbe.block _ (Array.getElem?_eq_some_iff.1 HG3.out.1).1).trans HG3.out.1)).2.1
    have d3 := (box8 ((hbe.block _ (Array.getElem?_eq_some_iff.1 HG3.out.2).1).trans HG3.out.2)).1.2.2.2
    have d4 := (box8 ((hbe.block _ (Array.getElem?_eq_some_iff.1 HG3.out.2).1).trans HG3.out.2)).2.1
    rw [HS1.out] at d3 d4
    clear hbe
    by_cases hil : i < o.kids.length
    · obtain ⟨x, hx⟩ : ∃ x, o.kids[i]? = some x := ⟨_, List.getElem?_eq_getElem hil⟩
      obtain ⟨ad, rfl, c0, c1, hbk⟩ := kid_at (HO3.out.below HBE.out).k hx
      obtain ⟨ad', rfl, e0, e1, hbk'⟩ := kid_at (HO3'.out.below HBE.out).k hx
      clear hx
      go_wp2_with fail
      go_quiet (fail)
      go_wp2_with fail
      go_roundw
      case rel => exact ⟨i + 1, by go_num, hil, pw_below_drewN HBE.out _⟩
      case measure => simp [intOf]; omega
    · go_wp2_with fail
      clear b3 b4 d3 d4
      go_loopw [6] (fun v wz => ∃ i : Nat, v = .int .i64 (i : Int) ∧ i ≤ o.parents.length ∧ Below W3.heap.size W3 wz) (fun v _ => o.parents.length - (intOf v).toNat)
      case atStart => exact ⟨0, rfl, Nat.zero_le _, HBE.out⟩
      case round =>
        obtain ⟨j, rfl, hj, hbe⟩ := hrel
        have HBE := Lib.hid hbe
        have b4 := (box8 ((hbe.block _ (Array.getElem?_eq_some_iff.1 HG3.out.1).1).trans HG3.out.1)).2.1
        have d4 := (box8 ((hbe.block _ (Array.getElem?_eq_some_iff.1 HG3.out.2).1).trans HG3.out.2)).2.1
        rw [HS1.out] at d4
        clear hbe
        by_cases hil : j < o.parents.length
        · obtain ⟨x, hx⟩ : ∃ x, o.parents[j]? = some x := ⟨_, List.getElem?_eq_getElem hil⟩
          obtain ⟨ad, rfl, c0, hbk⟩ := str_at (HO3.out.below HBE.out).p hx
          obtain ⟨ad', rfl, e0, hbk'⟩ := str_at (HO3'.out.below HBE.out).p hx
          clear hx
          go_wp2_with fail
          go_quiet (fail)
          go_wp2_with fail
          go_roundw
          case rel => exact ⟨j + 1, by go_num, hil, pw_below_drewN HBE.out _⟩
          case measure => simp [intOf]; omega
        · go_wp2_with fail
          go_ret
          exact ⟨rfl, HB3.out.trans (HBE.out.mono HB3.out.size)⟩
end Go.Proofs.YtgjlchcfdbmmlaaGreatDoor.PObjectPuts
namespace Go.Proofs.YtgjlchcfdbmmlaaGreatDoor.PObjectPuts
open Go.RowKit Go.Proofs.YtgjlchcfdbmmlaaGreatDoor.Ord Go.Proofs.YtgjlchcfdbmmlaaGreatDoor.Obj Go.Proofs.YtgjlchcfdbmmlaaGreatDoorW.PrintWords Go.Proofs.YtgjlchcfdbmmlaaGreatDoorW.PrintLast Go.Proofs.YtgjlchcfdbmmlaaGreatDoorW.PrintMore
attribute [local irreducible] OpGives
attribute [local go_sem] rdl_const rdl_func rdl_global rdl_nil rdl_cons
attribute [local go_sem high] eqV_run

def runesI : Option Nat → Nat → Int
  | none, _ => -1
  | some k, n => ((n + k : Nat) : Int)
theorem runes_l (s : ByteArray) (hs : s.size ≤ 100000) : ∀ (f i n : Nat), s.size ≤ i + f → n ≤ i → i ≤ 200000 → Ev (fun k => fastiref01_Runes.l0 k s (n : Int) (i : Int)) (runesI (runesF s f i) n)
  | f, i, n, h, hn, hi => by
    by_cases hl : s.size ≤ i
    · rw [runesF_end hl]
      exact Ev.step (f := fun _ => some ((n : Nat) : Int)) (fun k => by rw [fastiref01_Runes.l0, if_neg (by omega)]) (Ev.now _)
    · refine Ev.step (f := fun k => (fastiref01_Width.f k s (i : Int)).bind fun t => if t = 0 then some (-1) else fastiref01_Runes.l0 k s (wrap64 ((n : Int) + 1)) (wrap64 ((i : Int) + t))) (fun k => by rw [fastiref01_Runes.l0, if_pos (by omega)]) ?_
      refine Ev.bind (f := fun k t => if t = 0 then some (-1) else fastiref01_Runes.l0 k s (wrap64 ((n : Int) + 1)) (wrap64 ((i : Int) + t))) (width_ev s i hs) ?_
      by_cases hw : widthN s i = 0
      · rw [runesF_bad (by omega) h hw]
        exact Ev.congr (f := fun _ => some (-1)) (fun k => by rw [if_pos (by omega)]) (Ev.now _)
      · obtain ⟨f', rfl, h', e⟩ := runesF_step (by omega) h (by omega : 0 < widthN s i)
        have hle := widthN_le s i
        rw [e]
        have ih := runes_l s hs f' (i + widthN s i) (n + 1) h' (by omega) (by omega)
        have er : runesI ((runesF s f' (i + widthN s i)).map (· + 1)) n = runesI (runesF s f' (i + widthN s i)) (n + 1) := by
          cases runesF s f' (i + widthN s i) with
          | none => rfl
          | some k => simp only [Option.map_some, runesI]; omega
        rw [er]
        refine Ev.congr (fun k => ?_) ih
        rw [if_neg (by omega), w64 (by omega) (by omega), w64 (by omega) (by omega)]
        rfl
termination_by f => f
theorem runes_ev (s : ByteArray) (hs : s.size ≤ 100000) : Ev (fun k => fastiref01_Runes.f k s) (runesI (runesN s) 0) := runes_l s hs s.size 0 0 (by omega) (by omega) (by omega)
theorem drunes_calls (s : ByteArray) (hs : s.size ≤ 100000) (w : World) : Calls Tryz.prog 70 #[.string s] w fun e w' => e = .returned (.int .i64 (runesI (runesN s) 0)) ∧ Below w.heap.size w w' := by
  obtain ⟨k, hk⟩ := (runes_ev s hs).rounds
  exact (fastiref01_Runes.calls k s _ w hk).mono fun e w' ⟨he, n, hn⟩ => ⟨he, by rw [hn]; exact pw_below_drewN (Below.refl _ _) n⟩
set_option maxHeartbeats 8000000 in
set_option maxRecDepth 100000 in
theorem dright1_calls (k n : Int) (s : ByteArray) (w : World) :
    Calls Tryz.prog 53 #[.agg #[.int .i64 k, .int .i64 n, .string s]] w fun e w' => e = .returned (.bool (okV ⟨k, n, s⟩)) ∧ Below w.heap.size w w' := by
  obtain ⟨W1, hW1⟩ : ∃ W1, W1 = w.alloc (.cells #[.int .i64 k, .int .i64 n, .string s] 48) := ⟨_, rfl⟩
  have hn1 : Below w.heap.size w W1 := by rw [hW1]; exact (Below.refl _ _).alloc (Nat.le_refl _) _
  have hg1 : W1.heap[w.heap.size]? = some (.cells #[.int .i64 k, .int .i64 n, .string s] 48 (0, 0)) := by rw [hW1]; exact alloc_lastV _ _
  have c0 : W1.cell? ⟨w.heap.size, 0, none⟩ = some (.int .i64 k) := by rw [Lib.cell_of_heap hg1]; rfl
  have c1 : W1.cell? ⟨w.heap.size, 1, none⟩ = some (.int .i64 n) := by rw [Lib.cell_of_heap hg1]; rfl
  have c2 : W1.cell? ⟨w.heap.size, 2, none⟩ = some (.string s) := by rw [Lib.cell_of_heap hg1]; rfl
  have HN1 := Lib.hid hn1
  obtain ⟨RV, hRV⟩ : ∃ RV, RV = okV ⟨k, n, s⟩ := ⟨_, rfl⟩
  rw [← hRV]
  unfold okV at hRV
  simp only at hRV
  have HRV := Lib.hid hRV
  have HR := Lib.hid (fun (h : s.size ≤ 40) => drunes_calls s (by omega) W1)
  rw [hW1] at c0 c1 c2
  have HW1 := Lib.hid hW1
  clear hW1 hn1 hg1 hRV
  by_cases h1 : k = 1
  · subst h1
    have HRV := Lib.hid (HRV.out.trans (if_pos rfl))
    by_cases hs : s.size = 0
    · obtain rfl := empty_str hs
      go_enter Tryz.func53, Tryz.ntmps53
      go_wp2_with fail
      go_ret
      exact ⟨by rw [HRV.out]; rfl, (Below.refl _ _).alloc (Nat.le_refl _) _⟩
    · have hs' := full_str hs
      have HF := Lib.hid (show RV = false by rw [HRV.out, decide_eq_false hs])
      go_enter Tryz.func53, Tryz.ntmps53
      go_wp2_with fail
      go_ret
      exact ⟨by rw [HF.out]; rfl, (Below.refl _ _).alloc (Nat.le_refl _) _⟩
  have HRV := Lib.hid (HRV.out.trans (if_neg h1))
  have e1 : (k == 1) = false := by simpa using h1
  by_cases h2 : k = 2
  case neg =>
    have HF := Lib.hid (show RV = false by rw [HRV.out, if_neg h2])
    have e2 : (k == 2) = false := by simpa using h2
    go_enter Tryz.func53, Tryz.ntmps53
    go_wp2_with fail
    go_ret
    exact ⟨by rw [HF.out]; rfl, (Below.refl _ _).alloc (Nat.le_refl _) _⟩
  subst h2
  have HRV := Lib.hid (HRV.out.trans (if_pos rfl))
  by_cases h3 : n = 0
  case neg =>
    have HF := Lib.hid (show RV = false by rw [HRV.out, decide_eq_false h3]; rfl)
    have e3 : (n == 0) = false := by simpa using h3
    go_enter Tryz.func53, Tryz.ntmps53
    go_wp2_with fail
    go_ret
    exact ⟨by rw [HF.out]; rfl, (Below.refl _ _).alloc (Nat.le_refl _) _⟩
  subst h3
  by_cases h4 : s.size ≤ 40
  case neg =>
    have HF := Lib.hid (show RV = false by rw [HRV.out, decide_eq_false h4]; rfl)
    have e4 : decide ((s.size : Int) ≤ 40) = false := decide_eq_false (by omega)
    go_enter Tryz.func53, Tryz.ntmps53
    go_wp2_with fail
    go_ret
    exact ⟨by rw [HF.out]; rfl, (Below.refl _ _).alloc (Nat.le_refl _) _⟩
  have HC := Lib.hid (HR.out h4)
  have hrv : RV = decide (0 ≤ runesI (runesN s) 0) := by
    rw [HRV.out, decide_eq_true h4, decide_eq_true rfl, Bool.true_and, Bool.true_and]
    cases runesN s with
    | none => rfl
    | some k => simp [runesI]
  generalize runesI (runesN s) 0 = q at HC hrv
  have HQ := Lib.hid hrv
  have e4 : (s.size : Int) ≤ 40 := by omega
  clear hrv HR HRV h4
  go_enter Tryz.func53, Tryz.ntmps53
  go_wp2_with fail
  rw [← HW1.out]
  refine HC.out.mono ?_
  rintro e W2 ⟨rfl, hb2⟩
  have HF := Lib.hid (HN1.out.trans (hb2.mono HN1.out.size))
  clear hb2
  go_wp2_with fail
  go_ret
  exact ⟨by rw [HQ.out]; rfl, HF.out⟩
set_option maxRecDepth 100000 in
theorem dspan_calls (a b : Int) (w : World) : Calls Tryz.prog 52 #[.int .i64 a, .int .i64 b] w fun e w' => e = .returned (.bool (isS a b)) ∧ w' = w := by
  unfold isS
  go_enter Tryz.func52, Tryz.ntmps52
  go_wp2
  all_goals
    go_ret
    exact ⟨by first | (simp [*]; done) | (simp [*]; intros; omega), rfl⟩
set_option maxHeartbeats 8000000 in
set_option maxRecDepth 100000 in
theorem rright_calls (l : List S50) (A : Option Addr) (c : Nat) (w : World) (hA : Kd.C k50 w A l.length l) (hc : l.length ≤ c) :
    Calls Tryz.prog 26 #[.slice A l.length c] w fun e w' => e = .returned (.bool (okRows l)) ∧ Below w.heap.size w w' := by
  have HA := Lib.hid hA
  clear hA hc
  obtain ⟨R, hR⟩ : ∃ R, R = okRows l := ⟨_, rfl⟩
  rw [← hR]
  unfold okRows at hR
  by_cases hl : l.length ≤ 64
  case neg =>
    have hl' : (64 : Int) < (l.length : Int) := by omega
    have HF := Lib.hid (show R = false by rw [hR, decide_eq_false hl]; rfl)
    clear hR hl
    go_enter Tryz.func26, Tryz.ntmps26
    go_wp2_with fail
    go_ret
    exact ⟨by rw [HF.out]; rfl, Below.refl _ _⟩
  have hl' : ¬ (64 : Int) < (l.length : Int) := by omega
  rw [decide_eq_true hl, Bool.true_and] at hR
  have HR := Lib.hid (show R = rowsFrom (prevOf l 0) (l.drop 0) from hR)
  clear hR
  go_enter Tryz.func26, Tryz.ntmps26
  go_wp2_with fail
  go_loopw [3] (fun v wr => ∃ i : Nat, v = .int .i64 (i : Int) ∧ i ≤ l.length ∧ Hid (R = rowsFrom (prevOf l i) (l.drop i)) ∧ Below w.heap.size w wr) (fun v _ => l.length - (intOf v).toNat)
  case atStart => exact ⟨0, rfl, Nat.zero_le _, HR, Below.refl _ _⟩
  case round =>
    obtain ⟨i, rfl, hi, hr, hbe⟩ := hrel
    have HBE := Lib.hid hbe
    clear HR
    by_cases hil : i < l.length
    case neg =>
      have hie : i = l.length := by omega
      have hR2 := hr.out
      rw [hie, rowsFrom_end] at hR2
      have HR3 := Lib.hid hR2
      clear hR2 hr hie hbe
      go_wp2_with fail
      go_ret
      exact ⟨by rw [HR3.out]; rfl, HBE.out⟩
    obtain ⟨x, hx⟩ : ∃ x, l[i]? = some x := ⟨_, List.getElem?_eq_getElem hil⟩
    have HCL := Lib.hid (fun W (hW : Below wr.heap.size wr W) => row_at (Kd.C_below HA.out (hbe.trans (hW.mono hbe.size))) hx)
    obtain ⟨ad, rfl, c0, c1, c2, c3, c4, hbk⟩ := row_at (Kd.C_below HA.out hbe) hx
    have hr2 := hr.out
    rw [rowsFrom_step hx] at hr2
    have HR2 := Lib.hid hr2
    have HX := Lib.hid hx
    have HBK := Lib.hid hbk
    clear hr2 hr hx hbe hbk
    cases hIs : isS x.f0 x.f1 with
    | false =>
      have HF := Lib.hid (show R = false by rw [HR2.out, hIs]; rfl)
      go_wp2_with fail
      refine wp_region_quiet_lit (by kernel_rfl) (by kernel_rfl) ?_
      repeat (quiet_step (fail))
      refine wpQuiet_step (fun K hK => ?_)
      go_simp
      apply Exists.intro
      refine ⟨fun _ => Calls.quiet_of_same (dspan_calls _ _ _), hK _ ?_⟩
      clear hK K
      repeat (quiet_step (fail))
      refine wpQuiet_nil ?_
      intro _ hw'
      obtain ⟨nq, hw''⟩ := hw'
      subst hw''
      go_wp2_with fail
      go_ret
      exact ⟨by rw [HF.out]; rfl, pw_below_drewN HBE.out _⟩
    | true =>
      have hR3 := HR2.out
      rw [hIs, Bool.true_and] at hR3
      have HR3 := Lib.hid hR3
      have HIS := Lib.hid hIs
      clear hR3 hIs c0 c1 c2 c3 c4
      go_wp2_with fail
      obtain ⟨ok, hok⟩ : ∃ ok, okV x.f2 = ok := ⟨_, rfl⟩
      have HOK := Lib.hid hok
      clear hok
      have hix : (i : Int) < (l.length : Int) := by omega
      refine' wp_region_factsW (sz := 78) (S := (fun _ W => Below wr.heap.size wr W)) (fun _ W W' => Below W.heap.size W W') [eqM _, eqM _, eqM _, eqM _, eqM (.int .i64 x.f0), eqM _, eqM _, eqM _, eqM _, eqM (.int .i64 x.f1), eqM (.bool true), eqM _, eqM _, eqM _, eqM _, eqM _, eqM _, eqM (.agg #[.int .i64 x.f2.f0, .int .i64 x.f2.f1, .string x.f2.f2]), eqM (.bool ok), eqM _, eqM _] (by kernel_rfl) (by kernel_rfl) rfl (guardsM_of [(12, false)] (n := 21) rfl (by kernel_rfl) ⟨fun _ _ h => h, trivial⟩) ?hst ?h0 (Ord.stepsW_cons ?s0 (Ord.stepsW_cons ?s1 (Ord.stepsW_cons ?s2 (Ord.stepsW_cons ?s3 (Ord.stepsW_cons ?s4 (Ord.stepsW_cons ?s5 (Ord.stepsW_cons ?s6 (Ord.stepsW_cons ?s7 (Ord.stepsW_cons ?s8 (Ord.stepsW_cons ?s9 (Ord.stepsW_cons ?s10 (Ord.stepsW_cons ?s11 (Ord.stepsW_cons ?s12 (Ord.stepsW_cons ?s13 (Ord.stepsW_cons ?s14 (Ord.stepsW_cons ?s15 (Ord.stepsW_cons ?s16 (Ord.stepsW_cons ?s17 (Ord.stepsW_cons ?s18 (Ord.stepsW_cons ?s19 (Ord.stepsW_cons ?s20 (Ord.stepsW_nil)))))))))))))))))))))) ?fin
      case s0 =>
        intro g W L hL hSW hd
        try simp only [Nat.zero_add, Nat.reduceAdd] at hd ⊢
        with_reducible refine OpGives.pre_reads [] 78 ?_ ?_ ?_
        · rfl
        · kernel_rfl
        simp only [List.map_cons, List.map_nil]
        refine OpGives.val (w' := W) ?_ ⟨Below.refl _ _, rfl, hSW⟩
        go_simp
        try with_reducible rfl
      case s1 =>
        intro g W L hL hSW hd
        try simp only [Nat.zero_add, Nat.reduceAdd] at hd ⊢
        with_reducible refine OpGives.pre_reads [] 78 ?_ ?_ ?_
        · rfl
        · kernel_rfl
        simp only [List.map_cons, List.map_nil]
        refine OpGives.val (w' := W) ?_ ⟨Below.refl _ _, rfl, hSW⟩
        go_simp
        try with_reducible rfl
      case s2 =>
        intro g W L hL hSW hd
        try simp only [Nat.zero_add, Nat.reduceAdd] at hd ⊢
        have h0 : g 0 = _ := hd 0 (by decide) (by kernel_rfl)
        have h1 : g 1 = _ := hd 1 (by decide) (by kernel_rfl)
        with_reducible refine OpGives.pre_reads [(13, 0), (14, 1)] 78 ?_ ?_ ?_
        · rfl
        · kernel_rfl
        simp only [List.map_cons, List.map_nil]
        refine OpGives.val (w' := W) ?_ ⟨Below.refl _ _, rfl, hSW⟩
        go_simp
        try with_reducible rfl
      case s3 =>
        intro g W L hL hSW hd
        try simp only [Nat.zero_add, Nat.reduceAdd] at hd ⊢
        have h2 : g 2 = _ := hd 2 (by decide) (by kernel_rfl)
        with_reducible refine OpGives.pre_reads [(15, 2)] 78 ?_ ?_ ?_
        · rfl
        · kernel_rfl
        simp only [List.map_cons, List.map_nil]
        refine OpGives.val (w' := W) ?_ ⟨Below.refl _ _, rfl, hSW⟩
        go_simp
        try with_reducible rfl
      case s4 =>
        intro g W L hL hSW hd
        try simp only [Nat.zero_add, Nat.reduceAdd] at hd ⊢
        have h3 : g 3 = _ := hd 3 (by decide) (by kernel_rfl)
        with_reducible refine OpGives.pre_reads [(16, 3)] 78 ?_ ?_ ?_
        · rfl
        · kernel_rfl
        simp only [List.map_cons, List.map_nil]
        obtain ⟨ad', e, z0, z1, z2, z3, z4, zb⟩ := HCL.out W hSW; cases e; refine OpGives.val (v := .int .i64 x.f0) (w' := W) ?_ ⟨Below.refl _ _, rfl, hSW⟩; go_simp
      case s5 =>
        intro g W L hL hSW hd
        try simp only [Nat.zero_add, Nat.reduceAdd] at hd ⊢
        with_reducible refine OpGives.pre_reads [] 78 ?_ ?_ ?_
        · rfl
        · kernel_rfl
        simp only [List.map_cons, List.map_nil]
        refine OpGives.val (w' := W) ?_ ⟨Below.refl _ _, rfl, hSW⟩
        go_simp
        try with_reducible rfl
      case s6 =>
        intro g W L hL hSW hd
        try simp only [Nat.zero_add, Nat.reduceAdd] at hd ⊢
        with_reducible refine OpGives.pre_reads [] 78 ?_ ?_ ?_
        · rfl
        · kernel_rfl
        simp only [List.map_cons, List.map_nil]
        refine OpGives.val (w' := W) ?_ ⟨Below.refl _ _, rfl, hSW⟩
        go_simp
        try with_reducible rfl
      case s7 =>
        intro g W L hL hSW hd
        try simp only [Nat.zero_add, Nat.reduceAdd] at hd ⊢
        have h5 : g 5 = _ := hd 5 (by decide) (by kernel_rfl)
        have h6 : g 6 = _ := hd 6 (by decide) (by kernel_rfl)
        with_reducible refine OpGives.pre_reads [(18, 5), (19, 6)] 78 ?_ ?_ ?_
        · rfl
        · kernel_rfl
        simp only [List.map_cons, List.map_nil]
        refine OpGives.val (w' := W) ?_ ⟨Below.refl _ _, rfl, hSW⟩
        go_simp
        try with_reducible rfl
      case s8 =>
        intro g W L hL hSW hd
        try simp only [Nat.zero_add, Nat.reduceAdd] at hd ⊢
        have h7 : g 7 = _ := hd 7 (by decide) (by kernel_rfl)
        with_reducible refine OpGives.pre_reads [(20, 7)] 78 ?_ ?_ ?_
        · rfl
        · kernel_rfl
        simp only [List.map_cons, List.map_nil]
        refine OpGives.val (w' := W) ?_ ⟨Below.refl _ _, rfl, hSW⟩
        go_simp
        try with_reducible rfl
      case s9 =>
        intro g W L hL hSW hd
        try simp only [Nat.zero_add, Nat.reduceAdd] at hd ⊢
        have h8 : g 8 = _ := hd 8 (by decide) (by kernel_rfl)
        with_reducible refine OpGives.pre_reads [(21, 8)] 78 ?_ ?_ ?_
        · rfl
        · kernel_rfl
        simp only [List.map_cons, List.map_nil]
        obtain ⟨ad', e, z0, z1, z2, z3, z4, zb⟩ := HCL.out W hSW; cases e; refine OpGives.val (v := .int .i64 x.f1) (w' := W) ?_ ⟨Below.refl _ _, rfl, hSW⟩; go_simp
      case s10 =>
        intro g W L hL hSW hd
        try simp only [Nat.zero_add, Nat.reduceAdd] at hd ⊢
        have h4 : g 4 = _ := hd 4 (by decide) (by kernel_rfl)
        have h9 : g 9 = _ := hd 9 (by decide) (by kernel_rfl)
        with_reducible refine OpGives.pre_reads [(17, 4), (22, 9)] 78 ?_ ?_ ?_
        · rfl
        · kernel_rfl
        simp only [List.map_cons, List.map_nil]
        refine OpGives.call (f := 52) (args := #[.int .i64 x.f0, .int .i64 x.f1]) (w' := W) (by go_simp) ((dspan_calls _ _ W).mono fun e W' ⟨he, hb⟩ => by subst hb; rw [HIS.out] at he; exact ⟨_, he, Below.refl _ _, rfl, hSW⟩)
      case s11 =>
        intro g W L hL hSW hd
        try simp only [Nat.zero_add, Nat.reduceAdd] at hd ⊢
        have h10 : g 10 = _ := hd 10 (by decide) (by kernel_rfl)
        with_reducible refine OpGives.pre_reads [(23, 10)] 78 ?_ ?_ ?_
        · rfl
        · kernel_rfl
        simp only [List.map_cons, List.map_nil]
        refine OpGives.val (w' := W) ?_ ⟨Below.refl _ _, rfl, hSW⟩
        go_simp
        try with_reducible rfl
      case s12 =>
        intro g W L hL hSW hd
        try simp only [Nat.zero_add, Nat.reduceAdd] at hd ⊢
        have h11 : g 11 = _ := hd 11 (by decide) (by kernel_rfl)
        with_reducible refine OpGives.pre_reads [(24, 11)] 78 ?_ ?_ ?_
        · rfl
        · kernel_rfl
        simp only [List.map_cons, List.map_nil]
        refine OpGives.val (w' := W) ?_ ⟨Below.refl _ _, rfl, hSW⟩
        go_simp
        try with_reducible rfl
      case s13 =>
        intro g W L hL hSW hd
        try simp only [Nat.zero_add, Nat.reduceAdd] at hd ⊢
        with_reducible refine OpGives.pre_reads [] 78 ?_ ?_ ?_
        · rfl
        · kernel_rfl
        simp only [List.map_cons, List.map_nil]
        refine OpGives.val (w' := W) ?_ ⟨Below.refl _ _, rfl, hSW⟩
        go_simp
        try with_reducible rfl
      case s14 =>
        intro g W L hL hSW hd
        try simp only [Nat.zero_add, Nat.reduceAdd] at hd ⊢
        with_reducible refine OpGives.pre_reads [] 78 ?_ ?_ ?_
        · rfl
        · kernel_rfl
        simp only [List.map_cons, List.map_nil]
        refine OpGives.val (w' := W) ?_ ⟨Below.refl _ _, rfl, hSW⟩
        go_simp
        try with_reducible rfl
      case s15 =>
        intro g W L hL hSW hd
        try simp only [Nat.zero_add, Nat.reduceAdd] at hd ⊢
        have h13 : g 13 = _ := hd 13 (by decide) (by kernel_rfl)
        have h14 : g 14 = _ := hd 14 (by decide) (by kernel_rfl)
        with_reducible refine OpGives.pre_reads [(26, 13), (27, 14)] 78 ?_ ?_ ?_
        · rfl
        · kernel_rfl
        simp only [List.map_cons, List.map_nil]
        refine OpGives.val (w' := W) ?_ ⟨Below.refl _ _, rfl, hSW⟩
        go_simp
        try with_reducible rfl
      case s16 =>
        intro g W L hL hSW hd
        try simp only [Nat.zero_add, Nat.reduceAdd] at hd ⊢
        have h15 : g 15 = _ := hd 15 (by decide) (by kernel_rfl)
        with_reducible refine OpGives.pre_reads [(28, 15)] 78 ?_ ?_ ?_
        · rfl
        · kernel_rfl
        simp only [List.map_cons, List.map_nil]
        refine OpGives.val (w' := W) ?_ ⟨Below.refl _ _, rfl, hSW⟩
        go_simp
        try with_reducible rfl
      case s17 =>
        intro g W L hL hSW hd
        try simp only [Nat.zero_add, Nat.reduceAdd] at hd ⊢
        have h16 : g 16 = _ := hd 16 (by decide) (by kernel_rfl)
        with_reducible refine OpGives.pre_reads [(29, 16)] 78 ?_ ?_ ?_
        · rfl
        · kernel_rfl
        simp only [List.map_cons, List.map_nil]
        obtain ⟨ad', e, z0, z1, z2, z3, z4, zb⟩ := HCL.out W hSW; cases e; refine OpGives.val (v := .agg #[.int .i64 x.f2.f0, .int .i64 x.f2.f1, .string x.f2.f2]) (w' := W) ?_ ⟨Below.refl _ _, rfl, hSW⟩; go_simp
      case s18 =>
        intro g W L hL hSW hd
        try simp only [Nat.zero_add, Nat.reduceAdd] at hd ⊢
        have h17 : g 17 = _ := hd 17 (by decide) (by kernel_rfl)
        with_reducible refine OpGives.pre_reads [(30, 17)] 78 ?_ ?_ ?_
        · rfl
        · kernel_rfl
        simp only [List.map_cons, List.map_nil]
        refine OpGives.call (f := 53) (args := #[.agg #[.int .i64 x.f2.f0, .int .i64 x.f2.f1, .string x.f2.f2]]) (w' := W) (by go_simp) ((dright1_calls _ _ _ W).mono fun e W' ⟨he, hb⟩ => by rw [show okV ⟨x.f2.f0, x.f2.f1, x.f2.f2⟩ = ok from HOK.out] at he; exact ⟨_, he, hb, rfl, hSW.trans (hb.mono hSW.size)⟩)
      case s19 =>
        intro g W L hL hSW hd
        try simp only [Nat.zero_add, Nat.reduceAdd] at hd ⊢
        have h18 : g 18 = _ := hd 18 (by decide) (by kernel_rfl)
        with_reducible refine OpGives.pre_reads [(31, 18)] 78 ?_ ?_ ?_
        · rfl
        · kernel_rfl
        simp only [List.map_cons, List.map_nil]
        refine OpGives.val (w' := W) ?_ ⟨Below.refl _ _, rfl, hSW⟩
        go_simp
        try with_reducible rfl
      case s20 =>
        intro g W L hL hSW hd
        try simp only [Nat.zero_add, Nat.reduceAdd] at hd ⊢
        have h12 : g 12 = _ := hd 12 (by decide) (by kernel_rfl)
        have h19 : g 19 = _ := hd 19 (by decide) (by kernel_rfl)
        with_reducible refine OpGives.pre_reads [(25, 12), (32, 19)] 78 ?_ ?_ ?_
        · rfl
        · kernel_rfl
        simp only [List.map_cons, List.map_nil]
        refine OpGives.val (w' := W) ?_ ⟨Below.refl _ _, rfl, hSW⟩
        go_simp
        try with_reducible rfl
      case hst =>
        refine fun i j v w w' _ h hR => st_of (R := fun W W' => Below W.heap.size W W') ?_ i v w w' h hR
        repeat' first
          | exact trivial
          | with_reducible refine StL.eq ?_
      case h0 => exact (Below.refl _ _).drew
      case fin =>
        intro v W L hL hSW hf
        have h20 : v 20 = _ := hf 20 (Nat.lt_of_lt_of_eq (by decide : 20 < 21) rfl)
        clear hf
        generalize hF : Ord.pre _ _ v _ = F'
        rw [Ord.pre_lit [some 13, some 14, some 15, some 16, some 17, some 18, some 19, some 20, some 21, some 22, some 23, some 24, some 25, some 26, some 27, some 28, some 29, some 30, some 31, some 32, some 33]
          (by kernel_rfl)] at hF
        simp only [Ord.puts, Nat.zero_add, Nat.reduceAdd] at hF
        subst hF
        rw [h20]
        have HSW := Lib.hid hSW
        clear hSW h20
        refine wpAny_done (by kernel_rfl) ?_ _
        try simp only [List.getElem_toArray, List.getElem_cons_succ, List.getElem_cons_zero]
        go_frame
        cases ok with
        | false =>
          have HF := Lib.hid (show R = false by rw [HR3.out, HOK.out]; rfl)
          go_wp2_with fail
          go_ret
          exact ⟨by rw [HF.out]; rfl, HBE.out.trans (HSW.out.mono HBE.out.size)⟩
        | true =>
          have hR4 := HR3.out
          rw [HOK.out, Bool.true_and] at hR4
          have HR4 := Lib.hid hR4
          clear hR4
          obtain ⟨ad', e', c0, c1, c2, c3, c4, hbk⟩ := HCL.out W HSW.out
          cases e'
          clear hbk
          go_wp2_with fail
          rcases Nat.eq_zero_or_pos i with hi0 | hi0
          · subst hi0
            have HR5 := Lib.hid (show R = rowsFrom (prevOf l 1) (l.drop 1) from HR4.out)
            go_quiet (fail)
            go_wp2_with fail
            go_roundw
            case rel => exact ⟨1, rfl, hil, HR5, pw_below_drewN (HBE.out.trans (HSW.out.mono HBE.out.size)) _⟩
            case measure => simp [intOf]; omega
          obtain ⟨k, rfl⟩ : ∃ k, i = k + 1 := ⟨i - 1, by omega⟩
          obtain ⟨q, hq⟩ : ∃ q, l[k]? = some q := ⟨_, List.getElem?_eq_getElem (by omega)⟩
          obtain ⟨ad', e', b0, b1, b2, b3, b4, hbk⟩ := row_at (Kd.C_below HA.out (HBE.out.trans (HSW.out.mono HBE.out.size))) hq
          cases e'
          have hpv : prevOf l (k + 1) = some q := by unfold prevOf; rw [if_neg (by omega), show k + 1 - 1 = k from rfl, hq]
          have hR5 := HR4.out
          rw [hpv, nextOk_some] at hR5
          have HR5 := Lib.hid hR5
          clear hR5 hpv hq hbk
          have hgt : decide ((0 : Int) < (k : Int) + 1) = true := decide_eq_true (by omega)
          have hlk : (k : Int) < (l.length : Int) := by omega
          have hwk : IntKind.i64.wrap (k : Int) = (k : Int) := by rw [IntKind.wrap_i64]; omega
          by_cases hlt : x.f0 < q.f1
          · have hlt' := decide_eq_true hlt
            have HF := Lib.hid (show R = false by rw [HR5.out, hlt']; rfl)
            go_quiet (fail)
            go_wp2_with fail
            go_ret
            exact ⟨by rw [HF.out]; rfl, pw_below_drewN (HBE.out.trans (HSW.out.mono HBE.out.size)) _⟩
          have hlt' := decide_eq_false hlt
          have HR6 := Lib.hid (show R = (!(x.f0 == q.f1 && sameV x.f2 q.f2) && rowsFrom (prevOf l (k + 1 + 1)) (l.drop (k + 1 + 1))) by rw [HR5.out, hlt', Bool.false_or])
          by_cases heq : x.f0 = q.f1
          case neg =>
            have heqb : (x.f0 == q.f1) = false := by simpa using heq
            have HR7 := Lib.hid (HR6.out.trans (by rw [heqb]))
            clear heq
            go_quiet (fail)
            go_wp2_with fail
            go_roundw
            case rel => exact ⟨k + 1 + 1, by go_num, hil, HR7, pw_below_drewN (HBE.out.trans (HSW.out.mono HBE.out.size)) _⟩
            case measure => simp [intOf]; omega
          have heqb : (x.f0 == q.f1) = true := by simpa using heq
          clear heq
          cases hsv : (x.f2.f0 == q.f2.f0 && (x.f2.f1 == q.f2.f1 && (x.f2.f2.toList == q.f2.f2.toList))) with
          | true =>
            have HF := Lib.hid (show R = false by rw [HR6.out, heqb, show sameV x.f2 q.f2 = true from hsv]; rfl)
            go_quiet (fail)
            go_wp2_with fail
            go_ret
            exact ⟨by rw [HF.out]; rfl, pw_below_drewN (HBE.out.trans (HSW.out.mono HBE.out.size)) _⟩
          | false =>
            have HR7 := Lib.hid (HR6.out.trans (by rw [heqb, show sameV x.f2 q.f2 = false from hsv]))
            go_quiet (fail)
            go_wp2_with fail
            go_roundw
            case rel => exact ⟨k + 1 + 1, by go_num, hil, HR7, pw_below_drewN (HBE.out.trans (HSW.out.mono HBE.out.size)) _⟩
            case measure => simp [intOf]; omega
end Go.Proofs.YtgjlchcfdbmmlaaGreatDoor.PObjectPuts
namespace Go.Proofs.YtgjlchcfdbmmlaaGreatDoor.PObjectPuts
open Go.RowKit Go.Proofs.YtgjlchcfdbmmlaaGreatDoorW.PrintWords Go.Proofs.YtgjlchcfdbmmlaaGreatDoorW.PrintLast Go.Proofs.YtgjlchcfdbmmlaaGreatDoorW.PrintMore

/-- The writer in block b holds these bytes. -/
abbrev Wr (B b : Nat) (p : Value) (bs : List Value) (w : World) : Prop := Lib.BuilderAt 82 5 B b p bs w
abbrev IsWr (B b : Nat) (bs : List Value) (w : World) : Prop := Lib.IsBuilder 82 5 B b bs w
theorem sizeBuilder : (Tryz.prog.info? 80).map (·.size) = some 2 := by kernel_rfl
theorem liesWriter : liesAt Tryz.prog Tryz.prog.depth 82 (2 / Tryz.prog.cellsOf 82) 0 80 1 = true := by kernel_rfl
theorem infoByte : (Tryz.prog.info? 5).map (fun i => (i.zero, i.size, i.bytes)) = some (some (.int .u8 0), 1, 1) := by kernel_rfl

/-- From w to w' nothing that was there has turned but block b and rows of bytes. -/
structure ModW (b : Nat) (w w' : World) : Prop where
  size : w.heap.size ≤ w'.heap.size
  block : ∀ k, k < w.heap.size → k ≠ b → (∀ c f, w.heap[k]? ≠ some (.cells c 5 f)) → w'.heap[k]? = w.heap[k]?
theorem ModW.refl (b : Nat) (w : World) : ModW b w w := ⟨Nat.le_refl _, fun _ _ _ _ => rfl⟩
theorem ModW.trans {b : Nat} {w w1 w2 : World} (h : ModW b w w1) (k : ModW b w1 w2) : ModW b w w2 :=
  ⟨Nat.le_trans h.size k.size, fun i hi hb ht => by
    have e := h.block i hi hb ht
    exact (k.block i (Nat.lt_of_lt_of_le hi h.size) hb (by rw [e]; exact ht)).trans e⟩
theorem ModW.of_grown {b : Nat} {w w' : World} {row : Option Nat} (h : w.grownBy w' row) (ht : ∀ k, row = some k → ∃ c, w.heap[k]? = some (.cells c 5 (0, 0))) : ModW b w w' :=
  ⟨h.size, fun k hk _ hn => h.block k hk (fun e => by obtain ⟨c, hc⟩ := ht k e.symm; exact hn _ _ hc)⟩
theorem ModW.setCell (b : Nat) (w : World) (j : Nat) (v : Value) : ModW b w (w.setCell ⟨b, j, none⟩ v) :=
  ⟨by simp [World.setCell], fun k _ hb _ => Below.heap_setCell _ _ _ _ hb⟩
theorem ModW.of_below {b : Nat} {w w' : World} (h : Below w.heap.size w w') : ModW b w w' := ⟨h.size, fun k hk _ _ => h.block k hk⟩
theorem ModW.drew {b : Nat} {w w' : World} (h : ModW b w w') : ModW b w w'.drew := ⟨h.size, h.block⟩

set_option maxHeartbeats 1000000 in
set_option maxRecDepth 100000 in
theorem copyCheck_used (b : Nat) (w : World) (h0 : w.cell? ⟨b, 0, none⟩ = some (.pointer (some ⟨b, 0, none⟩))) :
    Calls Tryz.prog 76 #[.pointer (some ⟨b, 0, none⟩)] w fun e w' => e = .returned (.tuple #[]) ∧ w' = w := by
  obtain ⟨j, hj, _⟩ := Option.map_eq_some_iff.1 sizeBuilder
  go_enter Tryz.func76, Tryz.ntmps76
  go_wp2
  rw [Lib.run_neq_ptr_same w _ Tryz.underlying77 hj]
  go_wp2
  go_end0
  exact ⟨rfl, rfl⟩

set_option maxHeartbeats 1000000 in
set_option maxRecDepth 100000 in
theorem copyCheck_fresh (b : Nat) (w : World) (h0 : w.cell? ⟨b, 0, none⟩ = some (.pointer none)) (hsh : w.shape? b = some (82, 2)) (hfz : w.frozen? ⟨b, 0, none⟩ = false) :
    Calls Tryz.prog 76 #[.pointer (some ⟨b, 0, none⟩)] w fun e w' => e = .returned (.tuple #[]) ∧ w' = w.setCell ⟨b, 0, none⟩ (.pointer (some ⟨b, 0, none⟩)) := by
  obtain ⟨j, hj, hjs⟩ := Option.map_eq_some_iff.1 sizeBuilder
  go_enter Tryz.func76, Tryz.ntmps76
  go_wp2
  rw [Lib.run_to_unsafe w ⟨b, 0, none⟩ Tryz.underlying77 Tryz.underlying159 hj (by rw [hjs]; decide) hsh (Nat.zero_lt_succ 1)]
  simp only [Result.andThen]
  rw [Oper.upon_value]
  go_wp2
  rw [run_callFunc_extern Tryz.func88 (by kernel_rfl) (by kernel_rfl) (by kernel_rfl) (e := Extern.AbiNoEscape.same) (by kernel_rfl)]
  rw [Lib.run_noEscape]
  simp only [Result.andThen]
  rw [Oper.upon_value]
  go_wp2
  rw [Lib.run_from_unsafe w ⟨b, 0, none⟩ Tryz.underlying159 Tryz.underlying77 hj hsh liesWriter]
  simp only [Result.andThen]
  rw [Oper.upon_value]
  go_wp2
  go_end0
  exact ⟨rfl, rfl⟩

theorem copyCheck (B b : Nat) (bs : List Value) (w : World) (h : IsWr B b bs w) :
    Calls Tryz.prog 76 #[.pointer (some ⟨b, 0, none⟩)] w fun e w' => e = .returned (.tuple #[]) ∧ (Wr B b (.pointer (some ⟨b, 0, none⟩)) bs w' ∧ Below B w w' ∧ ModW b w w') := by
  rcases h with h | h
  · refine (copyCheck_fresh b w h.cell0 h.shape h.frozen0).mono ?_
    rintro e w' ⟨rfl, rfl⟩
    exact ⟨rfl, h.used _, (Below.refl B w).setCell (p := ⟨b, 0, none⟩) h.1 _, ModW.setCell b w 0 _⟩
  · refine (copyCheck_used b w h.cell0).mono ?_
    rintro e w' ⟨rfl, rfl⟩
    exact ⟨rfl, h, Below.refl B _, ModW.refl b _⟩

set_option maxHeartbeats 2000000 in
set_option maxRecDepth 100000 in
theorem writeByte (B b : Nat) (bs : List Value) (c : Int) (w : World) (h : IsWr B b bs w) (hlen : bs.length + 1 ≤ 140737488355328) (hBw : B ≤ w.heap.size) :
    Calls Tryz.prog 75 #[.pointer (some ⟨b, 0, none⟩), .int .u8 c] w fun e w' => e = .returned .nilIface ∧ (Wr B b (.pointer (some ⟨b, 0, none⟩)) (bs ++ [.int .u8 c]) w' ∧ Below B w w' ∧ ModW b w w') := by
  obtain ⟨i0, hi, hz0, hz1, hz2⟩ := info_parts infoByte
  have HC := Lib.hid (copyCheck B b bs w h)
  go_enter Tryz.func75, Tryz.ntmps75
  go_wp2_with (go_at_call 76; refine HC.out.mono ?_)
  rintro e w1 ⟨rfl, h1, hb1, hm1⟩
  obtain ⟨hB, v, hbk, hown, hne⟩ := h1
  have c0 : w1.cell? ⟨b, 0, none⟩ = some (.pointer (some ⟨b, 0, none⟩)) := by rw [Lib.cell_of_heap hbk]; rfl
  have c1 : w1.cell? ⟨b, 1, none⟩ = some v := by rw [Lib.cell_of_heap hbk]; rfl
  go_wp2_with (at_builtin; refine wpList_append_own _ rfl _ _ 78 rfl B 5 i0 (.int .u8 0) 1 1 Tryz.underlying78 hi hz0 hz1 hz2 rfl (by decide) _ _ _ rfl (hown.alloc _) ⟨w1.heap.size, 0, none⟩ 1 1 [.int .u8 c] rfl rfl ?c1 ?c2 ?c3 ?c4 ?c5 ?_)
  case c1 =>
    intro j u hj
    match j, hj with
    | 0, hj => simp at hj; subst hj; simp [Addr.add]
  case c2 => intro u hu; simp at hu; subst hu; rfl
  case c3 => unfold maxLen; omega
  case c4 => omega
  case c5 => have := hb1.size; simp; omega
  intro v' w2 hown' hgrow _
  have hlt : b < w1.heap.size := by
    rcases Nat.lt_or_ge b w1.heap.size with h' | h'
    · exact h'
    · simp [Array.getElem?_eq_none h'] at hbk
  have hb2 : w2.heap[b]? = some (.cells #[.pointer (some ⟨b, 0, none⟩), v] 82 (0, 0)) := by
    rw [hgrow.block b (by simp; omega) (fun e => hne e.symm), Lib.alloc_old w1 _ b hlt]
    exact hbk
  have d0 : w2.cell? ⟨b, 0, none⟩ = some (.pointer (some ⟨b, 0, none⟩)) := by rw [Lib.cell_of_heap hb2]; rfl
  have d1 : w2.cell? ⟨b, 1, none⟩ = some v := by rw [Lib.cell_of_heap hb2]; rfl
  have f1 : w2.frozen? ⟨b, 1, none⟩ = false := Lib.frozen_of_heap hb2 1
  obtain ⟨g, cap, rfl⟩ : ∃ g cap, v' = .slice (some ⟨g, 0, none⟩) (bs.length + 1) cap := by
    rcases hown'.2 with ⟨_, h0⟩ | ⟨g, cap, cur, hv, _⟩
    · omega
    · exact ⟨g, cap, hv⟩
  go_wp2
  go_ret
  refine ⟨rfl, ?_, ?_, ?_⟩
  · exact Lib.BuilderAt.put (T := 82) (e := 5) hB hb2 (bs' := bs ++ [.int .u8 c]) (by simpa using hown') (by decide)
  · exact ((hb1.alloc (by have := hb1.size; omega) _).grown hgrow (by have := hb1.size; simp; omega) (fun k hk => (hown.lt k hk).1)).setCell (p := ⟨b, 1, none⟩) hB _
  · exact ((hm1.trans (ModW.of_below ((Below.refl _ _).alloc (Nat.le_refl _) _))).trans (ModW.of_grown hgrow (fun k hk => own_typed (hown.alloc _) k hk))).trans (ModW.setCell b _ 1 _)

set_option maxHeartbeats 2000000 in
set_option maxRecDepth 100000 in
theorem writeString (B b : Nat) (bs : List Value) (s : ByteArray) (w : World) (h : IsWr B b bs w) (hlen : bs.length + s.size ≤ 140737488355328) (hBw : B ≤ w.heap.size) :
    Calls Tryz.prog 59 #[.pointer (some ⟨b, 0, none⟩), .string s] w fun e w' => e = .returned (.tuple #[.int .i64 s.size, .nilIface]) ∧ (Wr B b (.pointer (some ⟨b, 0, none⟩)) (bs ++ Lib.strCells s) w' ∧ Below B w w' ∧ ModW b w w') := by
  obtain ⟨i0, hi, hz0, hz1, hz2⟩ := info_parts infoByte
  have HC := Lib.hid (copyCheck B b bs w h)
  go_enter Tryz.func59, Tryz.ntmps59
  go_wp2_with (go_at_call 76; refine HC.out.mono ?_)
  rintro e w1 ⟨rfl, h1, hb1, hm1⟩
  obtain ⟨hB, v, hbk, hown, hne⟩ := h1
  have c0 : w1.cell? ⟨b, 0, none⟩ = some (.pointer (some ⟨b, 0, none⟩)) := by rw [Lib.cell_of_heap hbk]; rfl
  have c1 : w1.cell? ⟨b, 1, none⟩ = some v := by rw [Lib.cell_of_heap hbk]; rfl
  go_wp2_with (at_builtin; refine Lib.wpList_append_own_string _ rfl _ _ 78 9 rfl B 5 i0 Tryz.underlying78 Tryz.underlying9 hi hz0 hz1 hz2 _ _ _ rfl hown s rfl ?c3 ?c4 ?c5 ?_)
  case c3 => unfold maxLen; omega
  case c4 => omega
  case c5 => have := hb1.size; omega
  intro v' w2 hown' hgrow _
  have hlt : b < w1.heap.size := by
    rcases Nat.lt_or_ge b w1.heap.size with h' | h'
    · exact h'
    · simp [Array.getElem?_eq_none h'] at hbk
  have hb2 : w2.heap[b]? = some (.cells #[.pointer (some ⟨b, 0, none⟩), v] 82 (0, 0)) := by
    rw [hgrow.block b hlt (fun e => hne e.symm)]
    exact hbk
  have d0 : w2.cell? ⟨b, 0, none⟩ = some (.pointer (some ⟨b, 0, none⟩)) := by rw [Lib.cell_of_heap hb2]; rfl
  have d1 : w2.cell? ⟨b, 1, none⟩ = some v := by rw [Lib.cell_of_heap hb2]; rfl
  have f1 : w2.frozen? ⟨b, 1, none⟩ = false := Lib.frozen_of_heap hb2 1
  obtain ⟨ao, n', cap, rfl⟩ : ∃ ao n' cap, v' = .slice ao n' cap := by
    rcases hown'.2 with ⟨hv, _⟩ | ⟨g, cap, cur, hv, _⟩
    · exact ⟨_, _, _, hv⟩
    · exact ⟨_, _, _, hv⟩
  go_wp2
  go_ret2
  refine ⟨rfl, ?_, ?_, ?_⟩
  · exact Lib.BuilderAt.put (T := 82) (e := 5) hB hb2 (bs' := bs ++ Lib.strCells s) (by simpa [Lib.strCells_length] using hown') (by decide)
  · exact (hb1.grown hgrow (by have := hb1.size; omega) (fun k hk => (hown.lt k hk).1)).setCell (p := ⟨b, 1, none⟩) hB _
  · exact (hm1.trans (ModW.of_grown hgrow (fun k hk => own_typed hown k hk))).trans (ModW.setCell b _ 1 _)

set_option maxHeartbeats 1000000 in
set_option maxRecDepth 100000 in
theorem builderString (B b : Nat) (l : List UInt8) (w : World) (h : IsWr B b (Lib.byteCells l) w) (h0 : l ≠ []) :
    Calls Tryz.prog 34 #[.pointer (some ⟨b, 0, none⟩)] w fun e w' => e = .returned (.string ⟨l.toArray⟩) ∧ Below B w w' := by
  obtain ⟨p, hB, v, hbk, hown, hne⟩ : ∃ p, Wr B b p (Lib.byteCells l) w := by
    rcases h with h | h
    · exact ⟨_, h⟩
    · exact ⟨_, h⟩
  have hl0 : l.length ≠ 0 := by simpa using h0
  rw [Lib.byteCells_length] at hown
  obtain ⟨g, cap, cur, rfl, hbg, hg, hnc, hcm, hcs, htake⟩ : ∃ g cap cur, v = .slice (some ⟨g, 0, none⟩) l.length cap ∧ B ≤ g ∧ w.heap[g]? = some (.cells cur 5 (0, 0)) ∧ l.length ≤ cap ∧ cap ≤ maxLen ∧ cur.size = cap * 1 ∧ cur.toList.take (l.length * 1) = Lib.byteCells l := by
    rcases hown.2 with ⟨_, hz⟩ | ⟨g, cap, cur, hv, r⟩
    · exact absurd hz hl0
    · exact ⟨g, cap, cur, hv, r⟩
  have c1 : w.drew.cell? ⟨b, 1, none⟩ = some (.slice (some ⟨g, 0, none⟩) l.length cap) := by
    have : w.drew.heap[b]? = some (.cells #[p, .slice (some ⟨g, 0, none⟩) l.length cap] 82 (0, 0)) := hbk
    rw [Lib.cell_of_heap this]; rfl
  have hSD : (Builtin.unsafeSliceData_ #[78] 114 #[.slice (some ⟨g, 0, none⟩) l.length cap]).run Tryz.prog w.drew = .ok (.pointer (some ⟨g, 0, none⟩)) w.drew :=
    Lib.run_unsafeSliceData_row _ _ _ _ _ _ (by omega)
  have hUS : (Builtin.unsafeString_ #[114, 3] 9 #[.pointer (some ⟨g, 0, none⟩), .int .i64 l.length]).run Tryz.prog w.drew = .ok (.string ⟨l.toArray⟩) (w.drew.freeze ⟨g, 0, none⟩ l.length) := by
    refine Lib.run_unsafeString_row w.drew 114 3 9 5 Tryz.underlying114 (by kernel_rfl) g cur.size (by have hg' : w.drew.heap[g]? = some (.cells cur 5 (0, 0)) := hg; simp [World.shape?, hg']) l h0 (by omega) (by unfold maxLen at hcm; omega) ?_
    intro j x hx
    have := hown.cells (g := g) rfl j (.int .u8 x.toNat) (by simp [Lib.byteCells, hx])
    exact this
  go_enter Tryz.func34, Tryz.ntmps34
  go_wp2
  go_region
  all_goals (go_wp2; go_ret; exact ⟨rfl, Lib.below_freeze (Below.drew (Below.refl B w)) (p := ⟨g, 0, none⟩) hbg _⟩)
end Go.Proofs.YtgjlchcfdbmmlaaGreatDoor.PObjectPuts
namespace Go.Proofs.YtgjlchcfdbmmlaaGreatDoor.PObjectPuts
open Go.RowKit Go.Proofs.YtgjlchcfdbmmlaaGreatDoorW.PrintWords Go.Proofs.YtgjlchcfdbmmlaaGreatDoorW.PrintLast Go.Proofs.YtgjlchcfdbmmlaaGreatDoorW.PrintMore

/-- A number's bytes, the first not zero. -/
def bes (n : Nat) : List UInt8 := if h : n = 0 then [] else bes (n / 256) ++ [UInt8.ofNat (n % 256)]
theorem bes_zero : bes 0 = [] := by unfold bes; simp
theorem bes_pos {n : Nat} (h : 0 < n) : bes n = bes (n / 256) ++ [UInt8.ofNat (n % 256)] := by
  rw [bes]; rw [dif_neg (by omega)]
theorem bes_len : ∀ (k n : Nat), n < 256 ^ k → (bes n).length ≤ k
  | 0, n, h => by
    have : n = 0 := by simp at h; exact h
    rw [this, bes_zero]; exact Nat.le_refl _
  | k + 1, n, h => by
    rcases Nat.eq_zero_or_pos n with rfl | h0
    · rw [bes_zero]; exact Nat.zero_le _
    · rw [bes_pos h0, List.length_append]
      have := bes_len k (n / 256) (by rw [Nat.pow_succ] at h; exact Nat.div_lt_of_lt_mul (by omega))
      simp only [List.length_singleton]; omega
theorem bes_len8 {n : Nat} (h : n < 18446744073709551616) : (bes n).length ≤ 8 := bes_len 8 n (by simpa using h)
theorem bes_at : ∀ (k n i : Nat), (bes n).length = k → i < k → (bes n)[i]? = some (UInt8.ofNat (n / 256 ^ (k - 1 - i) % 256))
  | 0, n, i, _, h => by omega
  | k + 1, n, i, hl, hi => by
    rcases Nat.eq_zero_or_pos n with rfl | h0
    · rw [bes_zero] at hl; cases hl
    · rw [bes_pos h0] at hl ⊢
      have hl' : (bes (n / 256)).length = k := by simpa using hl
      rcases Nat.lt_or_ge i k with h | h
      · rw [List.getElem?_append_left (by omega), bes_at k (n / 256) i hl' h, Nat.div_div_eq_div_mul]
        rw [show k + 1 - 1 - i = (k - 1 - i) + 1 by omega, Nat.pow_succ, Nat.mul_comm (256 ^ (k - 1 - i)) 256]
      · have : i = k := by omega
        subst this
        rw [List.getElem?_append_right (by omega), hl']
        simp
/-- What 'head' writes. -/
def headB (kind n : Nat) : List UInt8 := UInt8.ofNat (kind * 16 + (bes n).length) :: bes n

theorem byteCells_append (a b : List UInt8) : Lib.byteCells (a ++ b) = Lib.byteCells a ++ Lib.byteCells b := by simp [Lib.byteCells]
theorem bits_or_head' : ∀ k : Fin 5, ∀ j : Fin 9, bits BinOp.or IntKind.u8 (((k : Nat) : Int) * 16) ((j : Nat) : Int) = ((k : Nat) : Int) * 16 + ((j : Nat) : Int) := by decide
theorem bits_or_head (k j : Nat) (hk : k ≤ 4) (hj : j ≤ 8) : bits BinOp.or IntKind.u8 ((k : Int) * 16) (j : Int) = (k : Int) * 16 + (j : Int) := bits_or_head' ⟨k, by omega⟩ ⟨j, by omega⟩
/-- All but the last i bytes are written. -/
def HeadAt (B b : Nat) (bs : List Value) (kind n : Nat) (w : World) (i : Nat) (W : World) : Prop :=
  i ≤ (bes n).length ∧ Wr B b (.pointer (some ⟨b, 0, none⟩)) (bs ++ Lib.byteCells ((headB kind n).take ((bes n).length - i + 1))) W ∧ Below B w W ∧ ModW b w W

set_option maxHeartbeats 4000000 in
set_option maxRecDepth 100000 in
theorem head_calls (B b : Nat) (bs : List Value) (kind n : Nat) (w : World) (h : IsWr B b bs w) (hk : kind ≤ 4) (hn : n < 18446744073709551616) (hlen : bs.length + 9 ≤ 140737488355328) (hBw : B ≤ w.heap.size) :
    Calls Tryz.prog 58 #[.pointer (some ⟨b, 0, none⟩), .int .u8 (kind : Int), .int .u64 (n : Int)] w fun e w' => e = .returned (.tuple #[]) ∧ (Wr B b (.pointer (some ⟨b, 0, none⟩)) (bs ++ Lib.byteCells (headB kind n)) w' ∧ Below B w w' ∧ ModW b w w') := by
  have HL := Lib.hid (bes_len8 hn)
  have H := Lib.hid h
  clear h
  go_enter Tryz.func58, Tryz.ntmps58
  go_wp2_with fail
  go_loopw [6, 7] (fun k m wr => w = wr ∧ ∃ j mm : Nat, k = .int .u8 (j : Int) ∧ m = .int .u64 (mm : Int) ∧ mm ≤ n ∧ j + (bes mm).length = (bes n).length) (fun _ m _ => (intOf m).toNat)
  case atStart => exact ⟨rfl, 0, n, rfl, rfl, Nat.le_refl _, by simp⟩
  case round =>
    obtain ⟨rfl, j, mm, rfl, rfl, hle, hj⟩ := hrel
    by_cases h0 : 0 < mm
    · have h1 := bes_pos h0
      go_wp2_with fail
      have HLo := HL.out
      have h2 : (bes mm).length = (bes (mm / 256)).length + 1 := by rw [h1]; simp
      go_roundw
      case rel => exact ⟨trivial, j + 1, mm / 256, by congr 1; omega, by congr 1, by omega, by omega⟩
      case measure => simp [intOf]; omega
    · have hm0 : mm = 0 := by omega
      rw [hm0, bes_zero] at hj
      clear hm0
      have hj' : j = (bes n).length := by simpa using hj
      have hj8 : j ≤ 8 := by rw [hj']; exact HL.out
      have hor := bits_or_head kind j hk hj8
      have HJ := Lib.hid hj'
      have HX := Lib.hid (writeByte B b bs ((kind : Int) * 16 + (j : Int)) w H.out (by omega) hBw)
      clear hj hj'
      go_wp2_with fail
      refine HX.out.mono ?_
      rintro e W1 ⟨rfl, hw, hb, hm⟩
      have hi : HeadAt B b bs kind n w j W1 := ⟨by rw [← HJ.out]; exact Nat.le_refl _, by
        rw [HJ.out, Nat.sub_self, Nat.zero_add]
        have e1 : Lib.byteCells ((headB kind n).take 1) = [.int .u8 ((kind : Int) * 16 + (j : Int))] := by
          simp only [headB, List.take_succ_cons, List.take_zero, Lib.byteCells, List.map_cons, List.map_nil]
          rw [← HJ.out, UInt8.toNat_ofNat']
          congr 1
          congr 1
          omega
        rw [e1]; exact hw, hb, hm⟩
      have HI := Lib.hid hi
      clear hw hb HX hi hm
      go_wp2_with fail
      go_loopw [6] (fun k wx => ∃ i : Nat, k = .int .u8 (i : Int) ∧ HeadAt B b bs kind n w i wx) (fun k _ => (intOf k).toNat)
      case atStart => exact ⟨j, rfl, HI.out⟩
      case round =>
        obtain ⟨i, rfl, hle, hw, hb, hm⟩ := hrel
        have HM := Lib.hid hm
        clear hm
        have hi8 : i ≤ 8 := Nat.le_trans hle HL.out
        by_cases h0 : 0 < i
        · have hat := bes_at (bes n).length n ((bes n).length - i) rfl (by omega)
          rw [show (bes n).length - 1 - ((bes n).length - i) = i - 1 by omega] at hat
          have HAT := Lib.hid hat
          have hlt : (bs ++ Lib.byteCells ((headB kind n).take ((bes n).length - i + 1))).length + 1 ≤ 140737488355328 := by
            rw [List.length_append, Lib.byteCells_length, List.length_take]
            have := HL.out; omega
          have HX := Lib.hid (fun c => writeByte B b _ c wr (.inr hw) hlt (Nat.le_trans hBw hb.size))
          have HB := Lib.hid hb
          clear hat hlt hw hb
          go_wp2_with fail
          refine (HX.out _).mono ?_
          rintro e W2 ⟨rfl, hw2, hb2, hm2⟩
          have hn2 : HeadAt B b bs kind n w (i - 1) W2 := by
            refine ⟨by omega, ?_, HB.out.trans hb2, HM.out.trans hm2⟩
            rw [show (bes n).length - (i - 1) + 1 = ((bes n).length - i + 1) + 1 by omega, List.take_add_one]
            have h2 : (headB kind n)[(bes n).length - i + 1]? = some (UInt8.ofNat (n / 256 ^ (i - 1) % 256)) := HAT.out
            rw [h2, Option.toList_some]
            have h3 : Lib.byteCells [UInt8.ofNat (n / 256 ^ (i - 1) % 256)] = [.int .u8 ((n : Int) / 2 ^ (8 * (i - 1)) % 256)] := by
              simp only [Lib.byteCells, List.map_cons, List.map_nil]
              rw [UInt8.toNat_ofNat']
              congr 1
              congr 1
              rw [show (256 : Nat) = 2 ^ 8 from rfl, ← Nat.pow_mul]
              simp
            rw [byteCells_append, h3, ← List.append_assoc]
            exact hw2
          have HN := Lib.hid hn2
          clear hw2 hb2 hn2 HX hm2
          go_wp2_with fail
          go_roundw
          case rel => exact ⟨i - 1, by congr 1; omega, HN.out⟩
          case measure => simp [intOf]; omega
        · have hi0 : i = 0 := by omega
          have hfin : Wr B b (.pointer (some ⟨b, 0, none⟩)) (bs ++ Lib.byteCells (headB kind n)) wr := by
            rw [hi0, Nat.sub_zero] at hw
            rw [List.take_of_length_le (by simp [headB])] at hw
            exact hw
          have HF := Lib.hid hfin
          have HB := Lib.hid hb
          clear hw hb hfin hi0
          go_wp2_with fail
          go_end0
          exact ⟨rfl, HF.out, HB.out, HM.out⟩
end Go.Proofs.YtgjlchcfdbmmlaaGreatDoor.PObjectPuts
namespace Go.Proofs.YtgjlchcfdbmmlaaGreatDoor.PObjectPuts
open Go.RowKit Go.Proofs.YtgjlchcfdbmmlaaGreatDoorW.PrintWords Go.Proofs.YtgjlchcfdbmmlaaGreatDoorW.PrintLast Go.Proofs.YtgjlchcfdbmmlaaGreatDoorW.PrintMore

mutual
/-- A cell's bytes. -/
def encS : S38 → List UInt8
  | ⟨k, n, s, l⟩ => if k = 1 then (if n < 0 then headB 2 (-(n + 1)).toNat else headB 1 n.toNat) else if k = 2 then headB 3 s.size ++ s.data.toList else headB 4 l.length ++ encL l
def encL : List S38 → List UInt8
  | [] => []
  | x :: xs => encS x ++ encL xs
end
mutual
/-- Its numbers are of their kind. -/
def wfS : S38 → Prop
  | ⟨k, n, s, l⟩ => -9223372036854775808 ≤ n ∧ n ≤ 9223372036854775807 ∧ s.size ≤ 140737488355328 ∧ l.length ≤ 140737488355328 ∧ wfL l
def wfL : List S38 → Prop
  | [] => True
  | x :: xs => wfS x ∧ wfL xs
end
theorem wfL_at : ∀ {l : List S38}, wfL l → ∀ {i : Nat} {x : S38}, l[i]? = some x → wfS x
  | [], _, i, x, h => by simp at h
  | y :: ys, hw, i, x, h => by
    rw [wfL] at hw
    cases i with
    | zero => simp at h; exact h ▸ hw.1
    | succ i => exact wfL_at hw.2 (by simpa using h)
theorem encL_snoc : ∀ (l : List S38) (x : S38), encL (l ++ [x]) = encL l ++ encS x
  | [], x => by simp [encL]
  | y :: ys, x => by simp [encL, encL_snoc ys x]
theorem encL_take_le : ∀ (l : List S38) (i : Nat), (encL (l.take i)).length ≤ (encL l).length
  | [], i => by simp
  | y :: ys, 0 => by simp [encL]
  | y :: ys, i + 1 => by
    have := encL_take_le ys i
    simp [encL]; exact this

theorem IsWr.far {B b : Nat} {bs : List Value} {w w' : World} (h : IsWr B b bs w) (hb : Below w.heap.size w w') : IsWr B b bs w' := by
  have f : ∀ p, Wr B b p bs w → Wr B b p bs w' := fun p ⟨h1, v, h2, h3, h4⟩ =>
    ⟨h1, v, (hb.block b (Array.getElem?_eq_some_iff.1 h2).1).trans h2, own_move h3 (fun k hk => hb.block k (own_lt h3 k hk)), h4⟩
  exact h.elim (fun x => .inl (f _ x)) (fun x => .inr (f _ x))
/-- The first i elements are written. -/
def PutAt (w0 : World) (b : Nat) (bs : List Value) (w : World) (g : Nat) (cs : Array Value) (l : List S38) (i : Nat) (W : World) : Prop :=
  i ≤ l.length ∧ Wr w0.heap.size b (.pointer (some ⟨b, 0, none⟩)) (bs ++ Lib.byteCells (headB 4 l.length ++ encL (l.take i))) W ∧ Below w0.heap.size w0 W ∧ ModW b w W
theorem i64_not_neg (n : Int) (h0 : -9223372036854775808 ≤ n) (h1 : n < 0) : bits .xor .i64 (-1) n = -1 - n := by
  show IntKind.i64.wrap ((BitVec.ofInt 64 (-1) ^^^ BitVec.ofInt 64 n).toNat : Int) = _
  have h2 : BitVec.ofInt 64 (-1) = BitVec.allOnes 64 := by decide
  rw [h2, BitVec.allOnes_xor, BitVec.toNat_not, BitVec.toNat_ofInt]
  simp [IntKind.wrap, IntKind.bits, IntKind.signed]
  omega
theorem headB_len (k n : Nat) (h : n < 18446744073709551616) : (headB k n).length ≤ 9 := by
  have := bes_len8 h
  simp only [headB, List.length_cons]; omega
theorem strCells_bytes (s : ByteArray) : Lib.strCells s = Lib.byteCells s.data.toList := by simp [Lib.strCells, Lib.byteCells]
set_option maxHeartbeats 8000000 in
set_option maxRecDepth 100000 in
theorem put_calls (m : Nat) : ∀ (x : S38) (hm : SizeOf.sizeOf x < m) (w0 : World) (b : Nat) (bs : List Value) (A : Option Addr) (c : Nat) (w : World) (h : IsWr w0.heap.size b bs w) (hA : Kd.C k38 w0 A x.f3.length x.f3) (hx : wfS x)
    (hlen : bs.length + (encS x).length + 16 ≤ 140737488355328) (hb0 : Below w0.heap.size w0 w),
    Calls Tryz.prog 33 #[.pointer (some ⟨b, 0, none⟩), .agg #[.int .i64 x.f0, .int .i64 x.f1, .string x.f2, .slice A x.f3.length c]] w fun e w' => e = .returned (.tuple #[]) ∧ (Wr w0.heap.size b (.pointer (some ⟨b, 0, none⟩)) (bs ++ Lib.byteCells (encS x)) w' ∧ Below w0.heap.size w0 w' ∧ ModW b w w') := by
  induction m with
  | zero => intro x hm; omega
  | succ m ih =>
    rintro ⟨k, n, s, l⟩ hm w0 b bs A c w h hA hx hlen hb0
    simp only at hA ⊢
    rw [wfS] at hx
    obtain ⟨hn0, hn1, hss, hll, hwl⟩ := hx
    rw [encS] at hlen ⊢
    have H := Lib.hid h
    have HA := Lib.hid hA
    have HB := Lib.hid hb0
    have HW := Lib.hid hwl
    have hlt := h.elim (fun e => e.lt) (fun e => e.lt)
    have HIH := Lib.hid ih
    clear h hA hb0 hwl ih
    by_cases hk1 : k = 1
    · rw [if_pos hk1] at hlen
      rw [if_pos hk1]
      by_cases hneg : n < 0
      · rw [if_pos hneg] at hlen
        rw [if_pos hneg]
        obtain ⟨q, hq⟩ : ∃ q : Nat, (-(n + 1)).toNat = q := ⟨_, rfl⟩
        rw [hq] at hlen ⊢
        go_enter Tryz.func33, Tryz.ntmps33
        go_wp2_with fail
        obtain ⟨W1, hW1⟩ : ∃ W1, W1 = w.alloc (.cells #[.int .i64 1, .int .i64 n, .string s, .slice A l.length c] 38) := ⟨_, rfl⟩
        rw [← hW1]
        have hn1 : Below w.heap.size w W1 := by rw [hW1]; exact (Below.refl _ _).alloc (Nat.le_refl _) _
        clear hW1
        have hB1 : Below w0.heap.size w0 W1 := HB.out.trans (hn1.mono HB.out.size)
        rw [i64_not_neg n hn0 hneg, show IntKind.u64.wrap (-1 - n) = (q : Int) by rw [IntKind.wrap_u64]; omega]
        have hhl := headB_len 2 q (by omega)
        refine (head_calls w0.heap.size b bs 2 q W1 (H.out.far hn1) (by decide) (by omega) (by omega) hB1.size).mono ?_
        rintro e W2 ⟨rfl, hw2, hb2, hm2⟩
        have HD := Lib.hid (And.intro hw2 (And.intro (hB1.trans hb2) ((ModW.of_below hn1).trans hm2)))
        clear hw2 hb2 hm2 hB1 hn1
        go_wp2_with fail
        go_end0
        exact ⟨rfl, HD.out⟩
      · rw [if_neg hneg] at hlen
        rw [if_neg hneg]
        obtain ⟨q, rfl⟩ : ∃ q : Nat, n = (q : Int) := ⟨n.toNat, by omega⟩
        rw [Int.toNat_natCast] at hlen ⊢
        go_enter Tryz.func33, Tryz.ntmps33
        go_wp2_with fail
        obtain ⟨W1, hW1⟩ : ∃ W1, W1 = w.alloc (.cells #[.int .i64 1, .int .i64 (q : Int), .string s, .slice A l.length c] 38) := ⟨_, rfl⟩
        rw [← hW1]
        have hn1 : Below w.heap.size w W1 := by rw [hW1]; exact (Below.refl _ _).alloc (Nat.le_refl _) _
        clear hW1
        have hB1 : Below w0.heap.size w0 W1 := HB.out.trans (hn1.mono HB.out.size)
        have hhl := headB_len 1 q (by omega)
        refine (head_calls w0.heap.size b bs 1 q W1 (H.out.far hn1) (by decide) (by omega) (by omega) hB1.size).mono ?_
        rintro e W2 ⟨rfl, hw2, hb2, hm2⟩
        have HD := Lib.hid (And.intro hw2 (And.intro (hB1.trans hb2) ((ModW.of_below hn1).trans hm2)))
        clear hw2 hb2 hm2 hB1 hn1
        go_wp2_with fail
        go_end0
        exact ⟨rfl, HD.out⟩
    · by_cases hk2 : k = 2
      · rw [if_neg hk1, if_pos hk2] at hlen
        rw [if_neg hk1, if_pos hk2]
        go_enter Tryz.func33, Tryz.ntmps33
        go_wp2_with fail
        obtain ⟨W1, hW1⟩ : ∃ W1, W1 = w.alloc (.cells #[.int .i64 2, .int .i64 n, .string s, .slice A l.length c] 38) := ⟨_, rfl⟩
        rw [← hW1]
        have hn1 : Below w.heap.size w W1 := by rw [hW1]; exact (Below.refl _ _).alloc (Nat.le_refl _) _
        have hg1 : W1.heap[w.heap.size]? = some (.cells #[.int .i64 2, .int .i64 n, .string s, .slice A l.length c] 38 (0, 0)) := by rw [hW1]; exact heap_alloc_last _ _
        have hgs : w.heap.size < W1.heap.size := (Array.getElem?_eq_some_iff.1 hg1).1
        have hB1 : Below w0.heap.size w0 W1 := HB.out.trans (hn1.mono HB.out.size)
        have hhl := headB_len 3 s.size (by omega)
        refine (head_calls w0.heap.size b bs 3 s.size W1 (H.out.far hn1) (by decide) (by omega) (by omega) hB1.size).mono ?_
        rintro e W2 ⟨rfl, hw2, hb2, hm2⟩
        have hc2 : W2.drew.cell? ⟨w.heap.size, 2, none⟩ = some (.string s) := by
          have hh : W2.drew.heap[w.heap.size]? = _ := (hm2.block _ hgs (by omega) (by rw [hg1]; intro c f e; injection e with e; injection e with _ e _; cases e)).trans hg1
          rw [Lib.cell_of_heap hh]; rfl
        have hws := writeString w0.heap.size b _ s W2.drew (IsWr.far (.inr hw2) ((Below.refl _ _).drew)) (by
          simp only [List.length_append, Lib.byteCells_length] at hlen ⊢
          have : s.data.toList.length = s.size := by rw [Array.length_toList]; rfl
          omega) (Nat.le_trans hB1.size hb2.size)
        rw [List.append_assoc, strCells_bytes, ← byteCells_append] at hws
        have HWS := Lib.hid hws
        have HD := Lib.hid (And.intro (hB1.trans hb2) ((ModW.of_below hn1).trans hm2))
        clear hw2 hb2 hm2 hn1 hW1 hg1 hgs hB1 hws
        go_wp2_with fail
        go_region_with (refine HWS.out.mono ?_; rintro e W3 ⟨rfl, hw3, hb3, hm3⟩)
        all_goals (go_wp2_with fail; go_end0; exact ⟨rfl, hw3, HD.out.1.trans (Below.trans ((Below.refl _ _).drew) hb3), HD.out.2.trans (ModW.trans (ModW.refl b _).drew hm3)⟩)
      · rw [if_neg hk1, if_neg hk2] at hlen
        rw [if_neg hk1, if_neg hk2]
        go_enter Tryz.func33, Tryz.ntmps33
        go_wp2_with fail
        obtain ⟨W1, hW1⟩ : ∃ W1, W1 = w.alloc (.cells #[.int .i64 k, .int .i64 n, .string s, .slice A l.length c] 38) := ⟨_, rfl⟩
        rw [← hW1]
        have hn1 : Below w.heap.size w W1 := by rw [hW1]; exact (Below.refl _ _).alloc (Nat.le_refl _) _
        have hg1 : W1.heap[w.heap.size]? = some (.cells #[.int .i64 k, .int .i64 n, .string s, .slice A l.length c] 38 (0, 0)) := by rw [hW1]; exact heap_alloc_last _ _
        have hgs : w.heap.size < W1.heap.size := (Array.getElem?_eq_some_iff.1 hg1).1
        have hB1 : Below w0.heap.size w0 W1 := HB.out.trans (hn1.mono HB.out.size)
        have hlen1 : (headB 4 l.length).length ≤ 9 := by
          have := bes_len8 (n := l.length) (by omega)
          simp only [headB, List.length_cons]; omega
        refine (head_calls w0.heap.size b bs 4 l.length W1 (H.out.far hn1) (by decide) (by omega) (by omega) hB1.size).mono ?_
        rintro e W2 ⟨rfl, hw2, hb2, hm2⟩
        have hc2 : W2.cell? ⟨w.heap.size, 3, none⟩ = some (.slice A l.length c) := by
          rw [Lib.cell_of_heap ((hm2.block _ hgs (by omega) (by rw [hg1]; intro c f e; injection e with e; injection e with _ e _; cases e)).trans hg1)]; rfl
        have hpa : PutAt w0 b bs w w.heap.size #[] l 0 W2 := ⟨Nat.zero_le _, by simpa [encL] using hw2, hB1.trans hb2, (ModW.of_below hn1).trans hm2⟩
        have HPA := Lib.hid hpa
        clear hW1 hg1 hgs hB1 hw2 hb2 hm2 hpa
        go_wp2_with fail
        go_loopw [17] (fun v wr => ∃ i : Nat, v = .int .i64 (i : Int) ∧ PutAt w0 b bs w w.heap.size #[] l i wr) (fun v _ => l.length - (intOf v).toNat)
        case atStart => exact ⟨0, rfl, HPA.out⟩
        case round =>
          obtain ⟨i, rfl, hi, hwr, hbe, hmo⟩ := hrel
          have HWR := Lib.hid hwr
          have HBE := Lib.hid hbe
          have HMO := Lib.hid hmo
          clear hwr hbe hmo
          by_cases hil : i < l.length
          · obtain ⟨ad, A3, c3, rfl, c0, c1, c2, c3', l3, g3⟩ := at_T38 HA.out (i : Int) (by omega) (by omega)
            obtain ⟨x, hx⟩ : ∃ x, l[i]? = some x := ⟨_, List.getElem?_eq_getElem hil⟩
            have hrd : rd_T38 l (i : Int) = x := by unfold rd_T38; rw [Int.toNat_natCast, List.getD_eq_getElem?_getD, hx]; rfl
            rw [hrd] at c0 c1 c2 c3' l3 g3
            rw [Int.toNat_natCast] at c0 c1 c2 c3'
            have hbk := block_lt_of_cell c0
            have c0 := (HBE.out.cell hbk).trans c0
            have c1 := (HBE.out.cell (p := ⟨(ad.add (i * 4)).block, (ad.add (i * 4)).off + 1, none⟩) hbk).trans c1
            have c2 := (HBE.out.cell (p := ⟨(ad.add (i * 4)).block, (ad.add (i * 4)).off + 2, none⟩) hbk).trans c2
            have c3' := (HBE.out.cell (p := ⟨(ad.add (i * 4)).block, (ad.add (i * 4)).off + 3, none⟩) hbk).trans c3'
            have HX := Lib.hid hx
            have HG3 := Lib.hid g3
            clear hx hrd g3 hbk
            go_wp2_with fail
            obtain ⟨W3, hW3⟩ : ∃ W3, W3 = wr.alloc (.cells #[.int .i64 x.f0, .int .i64 x.f1, .string x.f2, .slice A3 x.f3.length c3] 38) := ⟨_, rfl⟩
            rw [← hW3]
            have hn3 : Below wr.heap.size wr W3 := by rw [hW3]; exact (Below.refl _ _).alloc (Nat.le_refl _) _
            clear hW3
            have hsz : SizeOf.sizeOf x < m := by
              have := List.sizeOf_lt_of_mem (List.mem_of_getElem? HX.out)
              simp at hm; omega
            have hxl : (l.take (i + 1)) = l.take i ++ [x] := by rw [List.take_add_one, HX.out]; rfl
            have hle : (bs ++ Lib.byteCells (headB 4 l.length ++ encL (l.take i))).length + (encS x).length + 16 ≤ 140737488355328 := by
              have := encL_take_le l (i + 1)
              rw [hxl, encL_snoc] at this
              simp only [List.length_append, Lib.byteCells_length] at this hlen ⊢
              omega
            refine (HIH.out x hsz w0 b _ A3 c3 W3 (IsWr.far (.inr HWR.out) hn3) HG3.out (wfL_at HW.out HX.out) hle (HBE.out.trans (hn3.mono HBE.out.size))).mono ?_
            rintro e W4 ⟨rfl, hw4, hb4, hm4⟩
            have hp4 : PutAt w0 b bs w w.heap.size #[] l (i + 1) W4 := ⟨hil, by
              rw [hxl, encL_snoc, ← List.append_assoc, byteCells_append, ← List.append_assoc]; exact hw4, hb4, (HMO.out.trans (ModW.of_below hn3)).trans hm4⟩
            have HP4 := Lib.hid hp4
            clear hw4 hb4 hm4 hp4 hxl hle hsz
            go_wp2_with fail
            go_roundw
            case rel => exact ⟨i + 1, by go_num, HP4.out⟩
            case measure => simp [intOf]; omega
          · have hie : i = l.length := by omega
            have hfin : Wr w0.heap.size b (.pointer (some ⟨b, 0, none⟩)) (bs ++ Lib.byteCells (headB 4 l.length ++ encL l)) wr := by
              have := HWR.out; rw [hie, List.take_length] at this; exact this
            have HF := Lib.hid hfin
            clear hfin hie
            go_wp2_with fail
            go_end0
            exact ⟨rfl, HF.out, HBE.out, HMO.out⟩
end Go.Proofs.YtgjlchcfdbmmlaaGreatDoor.PObjectPuts
namespace Go.Proofs.YtgjlchcfdbmmlaaGreatDoor.PObjectPuts
open Go.RowKit Go.Proofs.YtgjlchcfdbmmlaaGreatDoorW.PrintWords Go.Proofs.YtgjlchcfdbmmlaaGreatDoorW.PrintLast Go.Proofs.YtgjlchcfdbmmlaaGreatDoorW.PrintMore

theorem wf_int {n : Int} (h : (Lit.int .i64 n).wf = true) : -9223372036854775808 ≤ n ∧ n ≤ 9223372036854775807 := by
  simp only [Lit.wf, Bool.and_eq_true, decide_eq_true_eq] at h
  exact ⟨Int.le_trans (by decide) h.1, Int.le_trans h.2 (by decide)⟩
theorem S38.ind {P : S38 → Prop} (h : ∀ x : S38, (∀ y ∈ x.f3, P y) → P x) (x : S38) : P x := by
  have : ∀ m, ∀ x : S38, SizeOf.sizeOf x < m → P x := by
    intro m
    induction m with
    | zero => intro x hx; omega
    | succ m ih =>
      intro x hx
      refine h x (fun y hy => ih y ?_)
      obtain ⟨k, n, s, l⟩ := x
      have := List.sizeOf_lt_of_mem hy
      simp at hx this ⊢; omega
  exact this _ x (Nat.lt_succ_self _)
theorem wfS_parts {x : S38} (h : wfS x) : -9223372036854775808 ≤ x.f1 ∧ x.f1 ≤ 9223372036854775807 ∧ x.f2.size ≤ 140737488355328 ∧ x.f3.length ≤ 140737488355328 ∧ wfL x.f3 := by
  obtain ⟨k, n, s, l⟩ := x
  rw [wfS] at h; exact h
theorem wfL_mem {l : List S38} (h : wfL l) {y : S38} (hy : y ∈ l) : wfS y := by
  obtain ⟨i, hi⟩ := List.getElem?_of_mem hy
  exact wfL_at h hi
theorem rd_at {l : List S38} {i : Nat} (h : i < l.length) : rd_T38 l (i : Int) = l[i] := by
  unfold rd_T38; rw [Int.toNat_natCast, List.getD_eq_getElem?_getD, List.getElem?_eq_getElem h]; rfl
theorem toList_nil_iff (s : ByteArray) : s.toList = [] ↔ s.size = 0 := by
  rw [Lib.toList_data, Lib.size_eq]; exact List.length_eq_zero_iff.symm
theorem wfL_of : ∀ {l : List S38}, (∀ y ∈ l, wfS y) → wfL l
  | [], _ => by rw [wfL]; trivial
  | x :: xs, h => by rw [wfL]; exact ⟨h x List.mem_cons_self, wfL_of (fun y hy => h y (List.mem_cons_of_mem _ hy))⟩
/-- Is a cell right, so deep at most? -/
def okS : Nat → S38 → Bool
  | 0, _ => false
  | d + 1, ⟨k, n, s, l⟩ => if k = 1 then decide (s.size = 0) && decide (l.length = 0) else if k = 2 then decide (n = 0) && (decide (l.length = 0) && decide (s.size ≤ 65535)) else if k = 3 then decide (n = 0) && (decide (s.size = 0) && (decide (l.length ≤ 4095) && l.all (okS d))) else false
end Go.Proofs.YtgjlchcfdbmmlaaGreatDoor.PObjectPuts
namespace Go.Proofs.YtgjlchcfdbmmlaaGreatDoor.PObjectPuts
open Go.RowKit Go.Proofs.YtgjlchcfdbmmlaaGreatDoorW.PrintWords Go.Proofs.YtgjlchcfdbmmlaaGreatDoorW.PrintLast Go.Proofs.YtgjlchcfdbmmlaaGreatDoorW.PrintMore

mutual
/-- What 'few' counts. -/
def parts : S38 → Nat
  | ⟨_, _, s, l⟩ => 1 + s.size / 100 + partsL l
def partsL : List S38 → Nat
  | [] => 0
  | x :: xs => parts x + partsL xs
end
theorem parts_eq (x : S38) : parts x = 1 + x.f2.size / 100 + partsL x.f3 := by cases x; rw [parts]
theorem partsL_mem {l : List S38} {y : S38} (h : y ∈ l) : parts y ≤ partsL l := by
  induction l with
  | nil => simp at h
  | cons x xs ih =>
    rw [partsL]
    rcases List.mem_cons.1 h with rfl | h
    · omega
    · have := ih h; omega
theorem partsL_len (l : List S38) : l.length ≤ partsL l := by
  induction l with
  | nil => simp
  | cons x xs ih => rw [partsL, List.length_cons, parts_eq]; omega
/-- A cell of few parts has few bytes. -/
def EncLe (x : S38) : Prop := wfS x → (encS x).length ≤ 109 * parts x
theorem encL_le {l : List S38} (ih : ∀ y ∈ l, EncLe y) (hw : wfL l) : (encL l).length ≤ 109 * partsL l ∧ l.length ≤ partsL l := by
  induction l with
  | nil => rw [encL, partsL]; simp
  | cons x xs ihx =>
    rw [wfL] at hw
    obtain ⟨e1, e2⟩ := ihx (fun y hy => ih y (List.mem_cons_of_mem _ hy)) hw.2
    have e3 := ih x (List.mem_cons_self) hw.1
    have e4 : 1 ≤ parts x := by rw [parts_eq]; omega
    rw [encL, partsL, List.length_append, List.length_cons]
    omega
theorem enc_le (x : S38) : EncLe x := by
  refine S38.ind (P := EncLe) (fun x ih => ?_) x
  intro hx
  obtain ⟨hn0, hn1, hs, hl, hw⟩ := wfS_parts hx
  obtain ⟨e1, e2⟩ := encL_le ih hw
  rw [parts_eq]
  obtain ⟨k, n, s, l⟩ := x
  simp only at *
  rw [encS]
  have hb : ∀ k m, m < 18446744073709551616 → (headB k m).length ≤ 9 := headB_len
  split
  · split
    · have := hb 2 (-(n + 1)).toNat (by omega); omega
    · have := hb 1 n.toNat (by omega); omega
  · split
    · have := hb 3 s.size (by omega)
      rw [List.length_append, ← Lib.size_eq]; omega
    · have := hb 4 l.length (by omega)
      rw [List.length_append]; omega
/-- What Check answers. -/
def checkR (x : S38) : Int := if okS 16 x then 0 else 2
end Go.Proofs.YtgjlchcfdbmmlaaGreatDoor.PObjectPuts
namespace Go.Proofs.YtgjlchcfdbmmlaaGreatDoor.PObjectPuts
open Go.RowKit Go.Proofs.YtgjlchcfdbmmlaaGreatDoor.Ord Go.Proofs.YtgjlchcfdbmmlaaGreatDoor.Obj Go.Proofs.YtgjlchcfdbmmlaaGreatDoorW.PrintWords Go.Proofs.YtgjlchcfdbmmlaaGreatDoorW.PrintLast Go.Proofs.YtgjlchcfdbmmlaaGreatDoorW.PrintMore

set_option maxHeartbeats 8000000 in
set_option maxRecDepth 100000 in
theorem check_calls : ∀ (m : Nat) (x : S38), SizeOf.sizeOf x < m → ∀ (d : Nat), d ≤ 16 → ∀ (A : Option Addr) (c : Nat) (w : World), Kd.C k38 w A x.f3.length x.f3 → x.f3.length ≤ c →
    Calls Tryz.prog 57 #[.agg #[.int .i64 x.f0, .int .i64 x.f1, .string x.f2, .slice A x.f3.length c], .int .i64 (d : Int)] w fun e w' => e = .returned (.bool (okS d x)) ∧ Below w.heap.size w w'
  | 0, x, h, d, hd, A, c, w, hA, hc => by omega
  | m + 1, x, h, d, hd, A, c, w, hA, hc => by
    have HIH := Lib.hid (fun y h' d hd A c w => check_calls m y h' d hd A c w)
    obtain ⟨k, n, s, l⟩ := x
    simp only at hA hc ⊢
    obtain ⟨W1, hW1⟩ : ∃ W1, W1 = w.alloc (.cells #[.int .i64 k, .int .i64 n, .string s, .slice A l.length c] 38) := ⟨_, rfl⟩
    have hn1 : Below w.heap.size w W1 := by rw [hW1]; exact (Below.refl _ _).alloc (Nat.le_refl _) _
    have hg1 : W1.heap[w.heap.size]? = some (.cells #[.int .i64 k, .int .i64 n, .string s, .slice A l.length c] 38 (0, 0)) := by rw [hW1]; exact alloc_lastV _ _
    obtain ⟨⟨b0, b1, b2, b3⟩, _⟩ := box4 hg1
    have HN1 := Lib.hid hn1
    have HG1 := Lib.hid hg1
    have HA := Lib.hid (Kd.C_below hA hn1)
    have hmx := hA.2.1
    rw [hW1] at b0 b1 b2 b3
    have HW1 := Lib.hid hW1
    clear hW1 hn1 hg1 hA
    cases d with
    | zero =>
      go_enter Tryz.func57, Tryz.ntmps57
      go_wp2_with fail
      rw [← HW1.out]
      go_ret
      exact ⟨by rw [okS]; rfl, HN1.out⟩
    | succ d =>
      have hd0 : ¬ ((d : Int) + 1 < 1) := by omega
      have hs0 : (s.toList = []) = (s.size = 0) := propext (toList_nil_iff s)
      rw [okS]
      by_cases h1 : k = 1
      · subst h1
        rw [if_pos rfl]
        go_enter Tryz.func57, Tryz.ntmps57
        go_wp2_with fail
        all_goals (go_ret; exact ⟨by first | rfl | (simp; done) | (simp; omega) | (cases l <;> simp; omega), (Below.refl _ _).alloc (Nat.le_refl _) _⟩)
      have hk1 : (k == 1) = false := by simpa using h1
      rw [if_neg h1]
      by_cases h2 : k = 2
      · subst h2
        rw [if_pos rfl]
        go_enter Tryz.func57, Tryz.ntmps57
        go_wp2_with fail
        all_goals (go_ret; exact ⟨by first | rfl | (simp; done) | (simp; omega) | (cases l <;> simp; omega), (Below.refl _ _).alloc (Nat.le_refl _) _⟩)
      have hk2 : (k == 2) = false := by simpa using h2
      rw [if_neg h2]
      by_cases h3 : k = 3
      · subst h3
        rw [if_pos rfl]
        obtain ⟨RV, hRV⟩ : ∃ RV, RV = (decide (n = 0) && (decide (s.size = 0) && (decide (l.length ≤ 4095) && l.all (okS d)))) := ⟨_, rfl⟩
        rw [← hRV]
        have HRV := Lib.hid hRV
        clear hRV
        go_enter Tryz.func57, Tryz.ntmps57
        go_wp2_with fail
        rw [← HW1.out]
        clear b0 b1 b2 b3
        go_loopw [44] (fun v wr => ∃ i : Nat, v = .int .i64 (i : Int) ∧ i ≤ l.length ∧ Hid ((l.take i).all (okS d) = true) ∧ Below W1.heap.size W1 wr) (fun v _ => l.length - (intOf v).toNat)
        case atStart => exact ⟨0, rfl, Nat.zero_le _, Lib.hid rfl, Below.refl _ _⟩
        case round =>
          obtain ⟨i, rfl, hi, HALL, hbe⟩ := hrel
          have HBE := Lib.hid hbe
          by_cases hil : i < l.length
          · obtain ⟨ad, A3, c3, rfl, c0, c1, c2, c3', l3, g3⟩ := at_T38 (Kd.C_below HA.out hbe) (i : Int) (by omega) (by omega)
            obtain ⟨x, hx⟩ : ∃ x, l[i]? = some x := ⟨_, List.getElem?_eq_getElem hil⟩
            have hrd : rd_T38 l (i : Int) = x := by unfold rd_T38; rw [Int.toNat_natCast, List.getD_eq_getElem?_getD, hx]; rfl
            rw [hrd] at c0 c1 c2 c3' l3 g3
            rw [Int.toNat_natCast] at c0 c1 c2 c3'
            have hsz : SizeOf.sizeOf x < m := by
              have := List.sizeOf_lt_of_mem (List.mem_of_getElem? hx)
              simp at h; omega
            obtain ⟨W3, hW3⟩ : ∃ W3, W3 = wr.alloc (.cells #[.int .i64 x.f0, .int .i64 x.f1, .string x.f2, .slice A3 x.f3.length c3] 38) := ⟨_, rfl⟩
            have hn3 : Below wr.heap.size wr W3 := by rw [hW3]; exact (Below.refl _ _).alloc (Nat.le_refl _) _
            have hg3 : W3.heap[wr.heap.size]? = some (.cells #[.int .i64 x.f0, .int .i64 x.f1, .string x.f2, .slice A3 x.f3.length c3] 38 (0, 0)) := by rw [hW3]; exact alloc_lastV _ _
            have HCALL := Lib.hid (HIH.out x hsz d (by omega) A3 c3 W3 (Kd.C_below g3 hn3) l3)
            have HN3 := Lib.hid hn3
            have hst : (l.take (i + 1)).all (okS d) = okS d x := by rw [List.take_add_one, hx, Option.toList_some, List.all_append, HALL.out, Bool.true_and, List.all_cons, List.all_nil, Bool.and_true]
            have HST := Lib.hid hst
            have HX := Lib.hid hx
            obtain ⟨⟨d0, d1, d2, d3⟩, _⟩ := box4 hg3
            rw [hW3] at d0 d1 d2 d3
            have HW3 := Lib.hid hW3
            clear hbe hrd g3 hx hsz hn3 hg3 hW3 hst
            go_wp2_with fail
            rw [← HW3.out]
            clear d0 d1 d2 d3 c0 c1 c2 c3'
            refine HCALL.out.mono ?_
            rintro e W4 ⟨rfl, hb4⟩
            have HB4 := Lib.hid (HBE.out.trans ((HN3.out.trans (hb4.mono HN3.out.size)).mono HBE.out.size))
            clear hb4
            cases ho : okS d x with
            | true =>
              rw [ho] at HST
              clear ho
              go_wp2_with fail
              go_roundw
              case rel => exact ⟨i + 1, by go_num, hil, HST, HB4.out⟩
              case measure => simp [intOf]; omega
            | false =>
              have HF := Lib.hid (show l.all (okS d) = false by rw [List.all_eq_false]; exact ⟨x, List.mem_of_getElem? HX.out, by rw [ho]; decide⟩)
              clear ho
              go_wp2_with fail
              go_ret
              exact ⟨by rw [HRV.out, HF.out]; simp, HN1.out.trans (HB4.out.mono HN1.out.size)⟩
          · have hie : i = l.length := by omega
            have hall := HALL.out
            rw [hie, List.take_length] at hall
            have HF := Lib.hid hall
            obtain ⟨⟨b0, b1, b2, b3⟩, _⟩ := box4 ((hbe.block _ (Array.getElem?_eq_some_iff.1 HG1.out).1).trans HG1.out)
            clear hall hie hbe HALL
            go_wp2_with fail
            all_goals (go_ret; exact ⟨by rw [HRV.out, HF.out]; first | (simp [*]; done) | (simp [*]; omega), HN1.out.trans (HBE.out.mono HN1.out.size)⟩)
      have hk3 : (k == 3) = false := by simpa using h3
      rw [if_neg h3]
      go_enter Tryz.func57, Tryz.ntmps57
      go_wp2_with fail
      rw [← HW1.out]
      go_ret
      exact ⟨rfl, HN1.out⟩
set_option maxRecDepth 100000 in
theorem Check_calls (x : S38) (A : Option Addr) (c : Nat) (w : World) (hA : Kd.C k38 w A x.f3.length x.f3) (hc : x.f3.length ≤ c) :
    Calls Tryz.prog 32 #[.agg #[.int .i64 x.f0, .int .i64 x.f1, .string x.f2, .slice A x.f3.length c]] w fun e w' => e = .returned (.int .i64 (checkR x)) ∧ Below w.heap.size w w' := by
  obtain ⟨W1, hW1⟩ : ∃ W1, W1 = w.alloc (.cells #[.int .i64 x.f0, .int .i64 x.f1, .string x.f2, .slice A x.f3.length c] 38) := ⟨_, rfl⟩
  have hn1 : Below w.heap.size w W1 := by rw [hW1]; exact (Below.refl _ _).alloc (Nat.le_refl _) _
  have hg1 : W1.heap[w.heap.size]? = some (.cells #[.int .i64 x.f0, .int .i64 x.f1, .string x.f2, .slice A x.f3.length c] 38 (0, 0)) := by rw [hW1]; exact alloc_lastV _ _
  obtain ⟨⟨b0, b1, b2, b3⟩, _⟩ := box4 hg1
  have HC := Lib.hid (check_calls _ x (Nat.lt_succ_self _) 16 (Nat.le_refl _) A c W1 (Kd.C_below hA hn1) hc)
  have HN1 := Lib.hid hn1
  rw [hW1] at b0 b1 b2 b3
  have HW1 := Lib.hid hW1
  clear hW1 hn1 hg1 hA
  unfold checkR
  generalize okS 16 x = r at HC
  go_enter Tryz.func32, Tryz.ntmps32
  go_wp2_with fail
  rw [← HW1.out]
  clear b0 b1 b2 b3
  refine HC.out.mono ?_
  rintro e W2 ⟨rfl, hb2⟩
  have HF := Lib.hid (HN1.out.trans (hb2.mono HN1.out.size))
  clear hb2
  cases r
  all_goals
    go_wp2_with fail
    go_ret
    exact ⟨rfl, HF.out⟩
end Go.Proofs.YtgjlchcfdbmmlaaGreatDoor.PObjectPuts
namespace Go.Proofs.YtgjlchcfdbmmlaaGreatDoor.PObjectPuts
open Go.RowKit Go.Proofs.YtgjlchcfdbmmlaaGreatDoor.Ord Go.Proofs.YtgjlchcfdbmmlaaGreatDoor.Obj Go.Proofs.YtgjlchcfdbmmlaaGreatDoorW.PrintWords Go.Proofs.YtgjlchcfdbmmlaaGreatDoorW.PrintLast Go.Proofs.YtgjlchcfdbmmlaaGreatDoorW.PrintMore

/-- What Put answers, r being what Check does. -/
def putB (r : Int) (x : S38) : List UInt8 := if r = 0 then encS x else []
theorem headB_ne (k n : Nat) : headB k n ≠ [] := by simp [headB]
theorem encS_ne : ∀ x : S38, encS x ≠ []
  | ⟨k, n, s, l⟩ => by
    rw [encS]
    split
    · split <;> exact headB_ne _ _
    · split <;> simp [headB]

set_option maxHeartbeats 4000000 in
set_option maxRecDepth 100000 in
theorem Put_calls (x : S38) (A : Option Addr) (c : Nat) (r : Int) (w : World) (hA : Kd.C k38 w A x.f3.length x.f3) (hc : x.f3.length ≤ c) (hx : wfS x) (hr : checkR x = r)
    (hlen : r = 0 → (encS x).length + 16 ≤ 140737488355328) :
    Calls Tryz.prog 18 #[.agg #[.int .i64 x.f0, .int .i64 x.f1, .string x.f2, .slice A x.f3.length c]] w fun e w' => e = .returned (.tuple #[.string ⟨(putB r x).toArray⟩, .int .i64 r]) ∧ Below w.heap.size w w' := by
  have HA := Lib.hid hA
  have HL := Lib.hid hlen
  obtain ⟨W1, hW1⟩ : ∃ W1, W1 = w.alloc (.cells #[.int .i64 x.f0, .int .i64 x.f1, .string x.f2, .slice A x.f3.length c] 38) := ⟨_, rfl⟩
  have hn1 : Below w.heap.size w W1 := by rw [hW1]; exact (Below.refl _ _).alloc (Nat.le_refl _) _
  have hg1 : W1.heap[w.heap.size]? = some (.cells #[.int .i64 x.f0, .int .i64 x.f1, .string x.f2, .slice A x.f3.length c] 38 (0, 0)) := by rw [hW1]; exact heap_alloc_last _ _
  have hgs : w.heap.size < W1.heap.size := (Array.getElem?_eq_some_iff.1 hg1).1
  subst hr
  have HC := Lib.hid (Check_calls x A c W1 (Kd.C_below hA hn1) hc)
  generalize checkR x = r at hlen HL HC ⊢
  have HW1 := Lib.hid hW1
  have HG1 := Lib.hid hg1
  have HN1 := Lib.hid hn1
  clear hA hlen hW1 hg1 hn1
  go_enter Tryz.func18, Tryz.ntmps18
  go_wp2_with fail
  rw [← HW1.out]
  have c0 : W1.cell? ⟨w.heap.size, 0, none⟩ = some (.int .i64 x.f0) := by rw [Lib.cell_of_heap HG1.out]; rfl
  have c1 : W1.cell? ⟨w.heap.size, 1, none⟩ = some (.int .i64 x.f1) := by rw [Lib.cell_of_heap HG1.out]; rfl
  have c2 : W1.cell? ⟨w.heap.size, 2, none⟩ = some (.string x.f2) := by rw [Lib.cell_of_heap HG1.out]; rfl
  have c3 : W1.cell? ⟨w.heap.size, 3, none⟩ = some (.slice A x.f3.length c) := by rw [Lib.cell_of_heap HG1.out]; rfl
  clear c0 c1 c2 c3
  refine HC.out.mono ?_
  rintro e W2 ⟨rfl, hb2⟩
  have hB2 := HN1.out.trans (hb2.mono (Nat.le_of_lt hgs))
  have hg2 := (hb2.block _ hgs).trans HG1.out
  by_cases hr0 : r = 0
  · subst hr0
    obtain ⟨W3, hW3⟩ : ∃ W3, W3 = W2.alloc (.cells #[.pointer none, .slice none 0 0] 82) := ⟨_, rfl⟩
    have hn3 : Below W2.heap.size W2 W3 := by rw [hW3]; exact (Below.refl _ _).alloc (Nat.le_refl _) _
    have hi3 : IsWr W2.heap.size W2.heap.size [] W3 := by rw [hW3]; exact Lib.fresh_isBuilder _ _ _
    have hs2 := (Array.getElem?_eq_some_iff.1 hg2).1
    have hg3 := (hn3.block _ hs2).trans hg2
    have d0 : (W2.alloc (.cells #[.pointer none, .slice none 0 0] 82)).cell? ⟨w.heap.size, 0, none⟩ = some (.int .i64 x.f0) := by rw [← hW3, Lib.cell_of_heap hg3]; rfl
    have d1 : (W2.alloc (.cells #[.pointer none, .slice none 0 0] 82)).cell? ⟨w.heap.size, 1, none⟩ = some (.int .i64 x.f1) := by rw [← hW3, Lib.cell_of_heap hg3]; rfl
    have d2 : (W2.alloc (.cells #[.pointer none, .slice none 0 0] 82)).cell? ⟨w.heap.size, 2, none⟩ = some (.string x.f2) := by rw [← hW3, Lib.cell_of_heap hg3]; rfl
    have d3 : (W2.alloc (.cells #[.pointer none, .slice none 0 0] 82)).cell? ⟨w.heap.size, 3, none⟩ = some (.slice A x.f3.length c) := by rw [← hW3, Lib.cell_of_heap hg3]; rfl
    have hput := put_calls (SizeOf.sizeOf x + 1) x (Nat.lt_succ_self _) W2 W2.heap.size [] A c W3 hi3 (Kd.C_below HA.out hB2) hx (by have := HL.out rfl; simpa using this) hn3
    have HP := Lib.hid hput
    have HB2 := Lib.hid hB2
    have HW3 := Lib.hid hW3
    clear hput hB2 hb2 hg2 hg3 hs2 hn3 hi3
    go_wp2_with fail
    rw [← HW3.out]
    clear d0 d1 d2 d3
    refine HP.out.mono ?_
    rintro e W4 ⟨rfl, hw4, hb4, hm4⟩
    have hst := builderString W2.heap.size W2.heap.size (encS x) W4 (.inr (by simpa using hw4)) (encS_ne x)
    have HS := Lib.hid hst
    have HB4 := Lib.hid hb4
    clear hw4 hm4 hst hb4
    go_wp2_with fail
    refine HS.out.mono ?_
    rintro e W5 ⟨rfl, hb5⟩
    have hfin := HB2.out.trans ((HB4.out.trans hb5).mono HB2.out.size)
    go_wp2_with fail
    go_ret2
    exact ⟨rfl, hfin⟩
  · have HB2 := Lib.hid hB2
    clear hB2 hb2 hg2 HG1
    go_wp2_with fail
    go_ret2
    exact ⟨by rw [show putB r x = [] by unfold putB; rw [if_neg hr0]]; rfl, HB2.out⟩
end Go.Proofs.YtgjlchcfdbmmlaaGreatDoor.PObjectPuts
namespace Go.Proofs.YtgjlchcfdbmmlaaGreatDoor.PObjectPuts
open Go.RowKit Go.Proofs.YtgjlchcfdbmmlaaGreatDoorW.PrintWords Go.Proofs.YtgjlchcfdbmmlaaGreatDoorW.PrintLast Go.Proofs.YtgjlchcfdbmmlaaGreatDoorW.PrintMore

/-- The panic that 'need' raises. -/
def wrongP (p e : Int) : List PanicEntry := [{ v := .iface 129 (.agg #[.int .i64 p, .int .i64 e]), recovered := false }]
set_option maxRecDepth 100000 in
theorem need_ok (p e : Int) (w : World) : Calls Tryz.prog 85 #[.bool true, .int .i64 p, .int .i64 e] w fun en w' => en = .returned (.tuple #[]) ∧ w' = w := by
  go_enter Tryz.func85, Tryz.ntmps85
  go_wp2
  go_end0
  exact ⟨rfl, rfl⟩
set_option maxRecDepth 100000 in
theorem need_no (p e : Int) (w : World) : Calls Tryz.prog 85 #[.bool false, .int .i64 p, .int .i64 e] w fun en w' => en = .panicked (wrongP p e) ∧ w' = w := by
  go_enter Tryz.func85, Tryz.ntmps85
  go_wp2
  exact ⟨rfl, rfl, rfl⟩
/-- What 'first' answers. -/
def firstV (b : Nat) : Value :=
  if b / 16 = 1 then .iface 153 (.agg #[.bool false]) else if b / 16 = 2 then .iface 153 (.agg #[.bool true]) else if b / 16 = 3 then .iface 155 (.agg #[]) else if b / 16 = 4 then .iface 166 (.agg #[]) else .nilIface
set_option maxRecDepth 100000 in
theorem first_calls (b : Nat) (w : World) (hb : b < 256) : Calls Tryz.prog 84 #[.int .u8 (b : Int)] w fun en w' => en = .returned (firstV b) ∧ w' = w := by
  unfold firstV
  by_cases h1 : b / 16 = 1
  · rw [if_pos h1]
    go_enter Tryz.func84, Tryz.ntmps84
    go_wp2
    go_ret
    exact ⟨rfl, rfl⟩
  · rw [if_neg h1]
    have e1 : ((b : Int) / 16 == 1) = false := by rw [beq_eq_false_iff_ne]; omega
    by_cases h2 : b / 16 = 2
    · rw [if_pos h2]
      have e2 : ((b : Int) / 16 == 2) = true := by rw [beq_iff_eq]; omega
      go_enter Tryz.func84, Tryz.ntmps84
      go_wp2
      go_ret
      exact ⟨rfl, rfl⟩
    · rw [if_neg h2]
      have e2 : ((b : Int) / 16 == 2) = false := by rw [beq_eq_false_iff_ne]; omega
      by_cases h3 : b / 16 = 3
      · rw [if_pos h3]
        have e3 : ((b : Int) / 16 == 3) = true := by rw [beq_iff_eq]; omega
        go_enter Tryz.func84, Tryz.ntmps84
        go_wp2
        go_ret
        exact ⟨rfl, rfl⟩
      · rw [if_neg h3]
        have e3 : ((b : Int) / 16 == 3) = false := by rw [beq_eq_false_iff_ne]; omega
        by_cases h4 : b / 16 = 4
        · rw [if_pos h4]
          have e4 : ((b : Int) / 16 == 4) = true := by rw [beq_iff_eq]; omega
          go_enter Tryz.func84, Tryz.ntmps84
          go_wp2
          go_ret
          exact ⟨rfl, rfl⟩
        · rw [if_neg h4]
          have e4 : ((b : Int) / 16 == 4) = false := by rw [beq_eq_false_iff_ne]; omega
          go_enter Tryz.func84, Tryz.ntmps84
          go_wp2
          go_ret
          exact ⟨rfl, rfl⟩
set_option maxRecDepth 100000 in
theorem most_number (v : Bool) (w : World) : Calls Tryz.prog 120 #[.agg #[.bool v]] w fun en w' => en = .returned (.tuple #[.int .i64 8, .int .u64 9223372036854775807]) ∧ Below w.heap.size w w' := by
  go_enter Tryz.func120, Tryz.ntmps120
  go_wp2
  go_ret2
  exact ⟨rfl, (Below.refl _ _).alloc (Nat.le_refl _) _⟩
set_option maxRecDepth 100000 in
theorem most_word (w : World) : Calls Tryz.prog 121 #[.agg #[]] w fun en w' => en = .returned (.tuple #[.int .i64 2, .int .u64 65535]) ∧ Below w.heap.size w w' := by
  go_enter Tryz.func121, Tryz.ntmps121
  go_wp2
  go_ret2
  exact ⟨rfl, (Below.refl _ _).alloc (Nat.le_refl _) _⟩
set_option maxRecDepth 100000 in
theorem most_row (w : World) : Calls Tryz.prog 122 #[.agg #[]] w fun en w' => en = .returned (.tuple #[.int .i64 2, .int .u64 4095]) ∧ Below w.heap.size w w' := by
  go_enter Tryz.func122, Tryz.ntmps122
  go_wp2
  go_ret2
  exact ⟨rfl, (Below.refl _ _).alloc (Nat.le_refl _) _⟩
end Go.Proofs.YtgjlchcfdbmmlaaGreatDoor.PObjectPuts
namespace Go.Proofs.YtgjlchcfdbmmlaaGreatDoor.PObjectPuts
open Go.RowKit Go.Proofs.YtgjlchcfdbmmlaaGreatDoor.Ord Go.Proofs.YtgjlchcfdbmmlaaGreatDoorW.PrintWords Go.Proofs.YtgjlchcfdbmmlaaGreatDoorW.PrintLast Go.Proofs.YtgjlchcfdbmmlaaGreatDoorW.PrintMore
attribute [local irreducible] OpGives
attribute [local go_sem] rdl_const rdl_func rdl_global rdl_nil rdl_cons

/-- From w to w' nothing that was there has turned but block b. -/
structure ModB (b : Nat) (w w' : World) : Prop where
  os : w'.os = w.os
  tape : w'.tape = w.tape
  output : w'.output = w.output
  size : w.heap.size ≤ w'.heap.size
  block : ∀ k, k < w.heap.size → k ≠ b → w'.heap[k]? = w.heap[k]?
theorem ModB.refl (b : Nat) (w : World) : ModB b w w := ⟨rfl, rfl, rfl, Nat.le_refl _, fun _ _ _ => rfl⟩
theorem ModB.trans {b : Nat} {w w1 w2 : World} (h : ModB b w w1) (k : ModB b w1 w2) : ModB b w w2 :=
  ⟨k.os.trans h.os, k.tape.trans h.tape, k.output.trans h.output, Nat.le_trans h.size k.size, fun i hi hb => (k.block i (Nat.lt_of_lt_of_le hi h.size) hb).trans (h.block i hi hb)⟩
theorem ModB.of_below {b : Nat} {w w' : World} (h : Below w.heap.size w w') : ModB b w w' := ⟨h.os, h.tape, h.output, h.size, fun k hk _ => h.block k hk⟩
theorem ModB.below {b B : Nat} {w w' : World} (h : ModB b w w') (hB : B ≤ w.heap.size) (hb : B ≤ b) : Below B w w' := ⟨h.os, h.tape, h.output, h.size, fun k hk => h.block k (by omega) (by omega)⟩
theorem ModB.setCell (b : Nat) (w : World) (j : Nat) (v : Value) : ModB b w (w.setCell ⟨b, j, none⟩ v) :=
  ⟨rfl, rfl, rfl, by simp [World.setCell], fun k _ hb => Below.heap_setCell _ _ _ _ hb⟩
theorem ModB.drew {b : Nat} {w w' : World} (h : ModB b w w') : ModB b w w'.drew := ⟨h.os, h.tape, h.output, h.size, h.block⟩
/-- A reader over s that stands at 'at'. -/
def RdAt (b : Nat) (s : ByteArray) (p : Nat) (w : World) : Prop := w.heap[b]? = some (.cells #[.string s, .int .i64 (p : Int)] 132 (0, 0))
theorem wpOp_panics {P : Program} {ops : Array Oper} {Q : Exit → Act → World → Prop} {i : Nat} {o : Oper} {K : Act → World → Prop} {a : Act} {w w' : World} {f : FuncId} {args : Array Value} (hi : ops[i]? = some o) (hg : o.guard = none)
    (hrun : (execOp a.eval o).run P w = .ok (.enter f args) w') (h : Calls P f args w' fun e w'' => ∃ ch, e = .panicked ch ∧ Q (.panic ch) a w'') : wpOp P ops Q i K a w := by
  unfold wpOp; rw [hi]; simp only [Region.wanted, hg, if_true]
  refine .inl ?_
  unfold Oper.wp; rw [hrun]
  exact h.mono fun e w'' ⟨v, he, hk⟩ => by subst he; exact hk
theorem RdAt.kept {b : Nat} {s : ByteArray} {p : Nat} {w w' : World} (h : RdAt b s p w) (hb : Below w.heap.size w w') : RdAt b s p w' :=
  (hb.block b (Array.getElem?_eq_some_iff.1 h).1).trans h

set_option maxHeartbeats 8000000 in
set_option maxRecDepth 100000 in
theorem bytes_ok (b : Nat) (s : ByteArray) (p n : Nat) (w : World) (h : RdAt b s p w) (hs : s.size ≤ 140737488355328) (hp : p + n ≤ s.size) :
    Calls Tryz.prog 83 #[.pointer (some ⟨b, 0, none⟩), .int .i64 (n : Int)] w fun e w' => e = .returned (.string (s.extract p (p + n))) ∧ RdAt b s (p + n) w' ∧ ModB b w w' := by
  have c0 : w.cell? ⟨b, 0, none⟩ = some (.string s) := by rw [Lib.cell_of_heap h]; rfl
  have c1 : w.cell? ⟨b, 1, none⟩ = some (.int .i64 (p : Int)) := by rw [Lib.cell_of_heap h]; rfl
  have f1 : w.frozen? ⟨b, 1, none⟩ = false := Lib.frozen_of_heap h 1
  have hge : (n : Int) ≤ (s.size : Int) - (p : Int) := by omega
  have H := Lib.hid h
  clear h
  go_enter Tryz.func83, Tryz.ntmps83
  go_wp2_with fail
  refine' wp_region_factsT (S := (fun W => W = w.drew)) (R := (fun a b => a = b)) [eqF _ _, eqF _ _, eqF _ _, eqF _ (.string s), eqF _ _, eqF _ _, eqF _ _, eqF _ _, eqF _ (.int .i64 (p : Int)), eqF _ (.int .i64 ((s.size : Int) - (p : Int))), eqF _ _, eqF _ (.bool true), eqF _ _, eqF _ _, eqF _ _, eqF _ (.string s), eqF _ _] (by kernel_rfl) (by kernel_rfl) ?hS ?h0 (Ord.steps_cons ?s0 (Ord.steps_cons ?s1 (Ord.steps_cons ?s2 (Ord.steps_cons ?s3 (Ord.steps_cons ?s4 (Ord.steps_cons ?s5 (Ord.steps_cons ?s6 (Ord.steps_cons ?s7 (Ord.steps_cons ?s8 (Ord.steps_cons ?s9 (Ord.steps_cons ?s10 (Ord.steps_cons ?s11 (Ord.steps_cons ?s12 (Ord.steps_cons ?s13 (Ord.steps_cons ?s14 (Ord.steps_cons ?s15 (Ord.steps_cons ?s16 (Ord.steps_nil)))))))))))))))))) ?fin
  case s0 =>
    intro g W hSW hd
    try simp only [Nat.zero_add, Nat.reduceAdd] at hd ⊢
    with_reducible refine OpGives.pre_reads [] 46 ?_ ?_ ?_
    · rfl
    · kernel_rfl
    simp only [List.map_cons, List.map_nil]
    refine OpGives.val (w' := W) ?_ ⟨rfl, rfl⟩
    go_simp
    try with_reducible rfl
  case s1 =>
    intro g W hSW hd
    try simp only [Nat.zero_add, Nat.reduceAdd] at hd ⊢
    have h0 : g 0 = _ := hd 0 (by decide) (by kernel_rfl)
    with_reducible refine OpGives.pre_reads [(5, 0)] 46 ?_ ?_ ?_
    · rfl
    · kernel_rfl
    simp only [List.map_cons, List.map_nil]
    refine OpGives.val (w' := W) ?_ ⟨rfl, rfl⟩
    go_simp
    try with_reducible rfl
  case s2 =>
    intro g W hSW hd
    try simp only [Nat.zero_add, Nat.reduceAdd] at hd ⊢
    have h1 : g 1 = _ := hd 1 (by decide) (by kernel_rfl)
    with_reducible refine OpGives.pre_reads [(6, 1)] 46 ?_ ?_ ?_
    · rfl
    · kernel_rfl
    simp only [List.map_cons, List.map_nil]
    refine OpGives.val (w' := W) ?_ ⟨rfl, rfl⟩
    go_simp
    try with_reducible rfl
  case s3 =>
    intro g W hSW hd
    try simp only [Nat.zero_add, Nat.reduceAdd] at hd ⊢
    have h2 : g 2 = _ := hd 2 (by decide) (by kernel_rfl)
    with_reducible refine OpGives.pre_reads [(7, 2)] 46 ?_ ?_ ?_
    · rfl
    · kernel_rfl
    simp only [List.map_cons, List.map_nil]
    subst hSW; refine OpGives.val (v := .string s) (w' := w.drew) ?_ ⟨rfl, rfl⟩; go_simp
  case s4 =>
    intro g W hSW hd
    try simp only [Nat.zero_add, Nat.reduceAdd] at hd ⊢
    have h3 : g 3 = _ := hd 3 (by decide) (by kernel_rfl)
    with_reducible refine OpGives.pre_reads [(8, 3)] 46 ?_ ?_ ?_
    · rfl
    · kernel_rfl
    simp only [List.map_cons, List.map_nil]
    refine OpGives.val (w' := W) ?_ ⟨rfl, rfl⟩
    go_simp
    try with_reducible rfl
  case s5 =>
    intro g W hSW hd
    try simp only [Nat.zero_add, Nat.reduceAdd] at hd ⊢
    with_reducible refine OpGives.pre_reads [] 46 ?_ ?_ ?_
    · rfl
    · kernel_rfl
    simp only [List.map_cons, List.map_nil]
    refine OpGives.val (w' := W) ?_ ⟨rfl, rfl⟩
    go_simp
    try with_reducible rfl
  case s6 =>
    intro g W hSW hd
    try simp only [Nat.zero_add, Nat.reduceAdd] at hd ⊢
    have h5 : g 5 = _ := hd 5 (by decide) (by kernel_rfl)
    with_reducible refine OpGives.pre_reads [(10, 5)] 46 ?_ ?_ ?_
    · rfl
    · kernel_rfl
    simp only [List.map_cons, List.map_nil]
    refine OpGives.val (w' := W) ?_ ⟨rfl, rfl⟩
    go_simp
    try with_reducible rfl
  case s7 =>
    intro g W hSW hd
    try simp only [Nat.zero_add, Nat.reduceAdd] at hd ⊢
    have h6 : g 6 = _ := hd 6 (by decide) (by kernel_rfl)
    with_reducible refine OpGives.pre_reads [(11, 6)] 46 ?_ ?_ ?_
    · rfl
    · kernel_rfl
    simp only [List.map_cons, List.map_nil]
    refine OpGives.val (w' := W) ?_ ⟨rfl, rfl⟩
    go_simp
    try with_reducible rfl
  case s8 =>
    intro g W hSW hd
    try simp only [Nat.zero_add, Nat.reduceAdd] at hd ⊢
    have h7 : g 7 = _ := hd 7 (by decide) (by kernel_rfl)
    with_reducible refine OpGives.pre_reads [(12, 7)] 46 ?_ ?_ ?_
    · rfl
    · kernel_rfl
    simp only [List.map_cons, List.map_nil]
    subst hSW; refine OpGives.val (v := .int .i64 (p : Int)) (w' := w.drew) ?_ ⟨rfl, rfl⟩; go_simp
  case s9 =>
    intro g W hSW hd
    try simp only [Nat.zero_add, Nat.reduceAdd] at hd ⊢
    have h4 : g 4 = _ := hd 4 (by decide) (by kernel_rfl)
    have h8 : g 8 = _ := hd 8 (by decide) (by kernel_rfl)
    with_reducible refine OpGives.pre_reads [(9, 4), (13, 8)] 46 ?_ ?_ ?_
    · rfl
    · kernel_rfl
    simp only [List.map_cons, List.map_nil]
    subst hSW; refine OpGives.val (v := .int .i64 ((s.size : Int) - (p : Int))) (w' := w.drew) ?_ ⟨rfl, rfl⟩; go_simp; rw [IntKind.wrap_i64]; omega
  case s10 =>
    intro g W hSW hd
    try simp only [Nat.zero_add, Nat.reduceAdd] at hd ⊢
    with_reducible refine OpGives.pre_reads [] 46 ?_ ?_ ?_
    · rfl
    · kernel_rfl
    simp only [List.map_cons, List.map_nil]
    refine OpGives.val (w' := W) ?_ ⟨rfl, rfl⟩
    go_simp
    try with_reducible rfl
  case s11 =>
    intro g W hSW hd
    try simp only [Nat.zero_add, Nat.reduceAdd] at hd ⊢
    have h9 : g 9 = _ := hd 9 (by decide) (by kernel_rfl)
    have h10 : g 10 = _ := hd 10 (by decide) (by kernel_rfl)
    with_reducible refine OpGives.pre_reads [(14, 9), (15, 10)] 46 ?_ ?_ ?_
    · rfl
    · kernel_rfl
    simp only [List.map_cons, List.map_nil]
    subst hSW; refine OpGives.val (v := .bool true) (w' := w.drew) ?_ ⟨rfl, rfl⟩; go_simp
  case s12 =>
    intro g W hSW hd
    try simp only [Nat.zero_add, Nat.reduceAdd] at hd ⊢
    with_reducible refine OpGives.pre_reads [] 46 ?_ ?_ ?_
    · rfl
    · kernel_rfl
    simp only [List.map_cons, List.map_nil]
    refine OpGives.val (w' := W) ?_ ⟨rfl, rfl⟩
    go_simp
    try with_reducible rfl
  case s13 =>
    intro g W hSW hd
    try simp only [Nat.zero_add, Nat.reduceAdd] at hd ⊢
    have h12 : g 12 = _ := hd 12 (by decide) (by kernel_rfl)
    with_reducible refine OpGives.pre_reads [(17, 12)] 46 ?_ ?_ ?_
    · rfl
    · kernel_rfl
    simp only [List.map_cons, List.map_nil]
    refine OpGives.val (w' := W) ?_ ⟨rfl, rfl⟩
    go_simp
    try with_reducible rfl
  case s14 =>
    intro g W hSW hd
    try simp only [Nat.zero_add, Nat.reduceAdd] at hd ⊢
    have h13 : g 13 = _ := hd 13 (by decide) (by kernel_rfl)
    with_reducible refine OpGives.pre_reads [(18, 13)] 46 ?_ ?_ ?_
    · rfl
    · kernel_rfl
    simp only [List.map_cons, List.map_nil]
    refine OpGives.val (w' := W) ?_ ⟨rfl, rfl⟩
    go_simp
    try with_reducible rfl
  case s15 =>
    intro g W hSW hd
    try simp only [Nat.zero_add, Nat.reduceAdd] at hd ⊢
    have h14 : g 14 = _ := hd 14 (by decide) (by kernel_rfl)
    with_reducible refine OpGives.pre_reads [(19, 14)] 46 ?_ ?_ ?_
    · rfl
    · kernel_rfl
    simp only [List.map_cons, List.map_nil]
    subst hSW; refine OpGives.val (v := .string s) (w' := w.drew) ?_ ⟨rfl, rfl⟩; go_simp
  case s16 =>
    intro g W hSW hd
    try simp only [Nat.zero_add, Nat.reduceAdd] at hd ⊢
    have h15 : g 15 = _ := hd 15 (by decide) (by kernel_rfl)
    with_reducible refine OpGives.pre_reads [(20, 15)] 46 ?_ ?_ ?_
    · rfl
    · kernel_rfl
    simp only [List.map_cons, List.map_nil]
    refine OpGives.val (w' := W) ?_ ⟨rfl, rfl⟩
    go_simp
    try with_reducible rfl
  case hS => rintro a c h rfl; exact h
  case h0 => rfl
  case fin =>
    intro v W hSW hf
    subst hSW
    have h11 : v 11 = _ := hf 11 (Nat.lt_of_lt_of_eq (by decide : 11 < 17) rfl)
    have h16 : v 16 = _ := hf 16 (Nat.lt_of_lt_of_eq (by decide : 16 < 17) rfl)
    clear hf
    generalize hF : Ord.pre _ _ v _ = F
    rw [Ord.pre_lit [some 5, some 6, some 7, some 8, some 9, some 10, some 11, some 12, some 13, some 14, some 15, some 16, some 17, some 18, some 19, some 20, some 21]
      (by kernel_rfl)] at hF
    simp only [Ord.puts, Nat.zero_add, Nat.reduceAdd] at hF
    subst hF
    rw [h11, h16]
    clear h11 h16
    refine any_one (i := 17) (by kernel_rfl) ?_
    refine wpOp_call (f := 85) (args := #[.bool true, .int .i64 (s.size : Int), .int .i64 3]) (w' := w.drew) rfl rfl (by go_simp) ((need_ok _ _ _).mono fun e w'' he => ⟨_, he.1, ?_⟩)
    rw [he.2]
    clear he
    refine wpAny_done (by kernel_rfl) ?_ _
    try simp only [List.getElem_toArray, List.getElem_cons_succ, List.getElem_cons_zero]
    go_frame
    have hst : RdAt b s (p + n) (w.drew.setCell ⟨b, 1, none⟩ (.int .i64 ((p : Int) + (n : Int)))) := by
      have h1 : w.drew.heap[b]? = some (.cells #[.string s, .int .i64 (p : Int)] 132 (0, 0)) := H.out
      unfold RdAt
      rw [heap_setCell_same _ _ _ _ _ _ h1]
      simp
    have hm : ModB b w (w.drew.setCell ⟨b, 1, none⟩ (.int .i64 ((p : Int) + (n : Int)))) := (ModB.refl b w).drew.trans (ModB.setCell b _ 1 _)
    have HS := Lib.hid hst
    have HM := Lib.hid hm
    clear hst hm
    go_wp2_with fail
    obtain ⟨W1, hW1⟩ : ∃ W1, W1 = (w.setCell ⟨b, 1, none⟩ (.int .i64 ((p : Int) + (n : Int)))).drew := ⟨_, rfl⟩
    rw [← hW1]
    have hs1 : RdAt b s (p + n) W1 := by rw [hW1]; exact HS.out
    have hm1 : ModB b w W1 := by rw [hW1]; exact HM.out
    clear HS HM hW1 c0 c1 f1
    have c0 : W1.cell? ⟨b, 0, none⟩ = some (.string s) := by rw [Lib.cell_of_heap hs1]; rfl
    have c1 : W1.cell? ⟨b, 1, none⟩ = some (.int .i64 ((p : Int) + (n : Int))) := by rw [Lib.cell_of_heap hs1]; simp
    have HS := Lib.hid hs1
    have HM := Lib.hid hm1
    clear hs1 hm1
    refine' wp_region_factsT (S := (fun W => W = W1.drew)) (R := (fun a b => a = b)) [eqF _ _, eqF _ _, eqF _ _, eqF _ (.string s), eqF _ _, eqF _ _, eqF _ _, eqF _ (.int .i64 ((p : Int) + (n : Int))), eqF _ _, eqF _ (.int .i64 (p : Int)), eqF _ _, eqF _ _, eqF _ _, eqF _ (.int .i64 ((p : Int) + (n : Int))), eqF _ (.string (s.extract p (p + n)))] (by kernel_rfl) (by kernel_rfl) ?hS ?h0 (Ord.steps_cons ?s0 (Ord.steps_cons ?s1 (Ord.steps_cons ?s2 (Ord.steps_cons ?s3 (Ord.steps_cons ?s4 (Ord.steps_cons ?s5 (Ord.steps_cons ?s6 (Ord.steps_cons ?s7 (Ord.steps_cons ?s8 (Ord.steps_cons ?s9 (Ord.steps_cons ?s10 (Ord.steps_cons ?s11 (Ord.steps_cons ?s12 (Ord.steps_cons ?s13 (Ord.steps_cons ?s14 (Ord.steps_nil)))))))))))))))) ?fin
    case s0 =>
      intro g W hSW hd
      try simp only [Nat.zero_add, Nat.reduceAdd] at hd ⊢
      with_reducible refine OpGives.pre_reads [] 46 ?_ ?_ ?_
      · rfl
      · kernel_rfl
      simp only [List.map_cons, List.map_nil]
      refine OpGives.val (w' := W) ?_ ⟨rfl, rfl⟩
      go_simp
      try with_reducible rfl
    case s1 =>
      intro g W hSW hd
      try simp only [Nat.zero_add, Nat.reduceAdd] at hd ⊢
      have h0 : g 0 = _ := hd 0 (by decide) (by kernel_rfl)
      with_reducible refine OpGives.pre_reads [(31, 0)] 46 ?_ ?_ ?_
      · rfl
      · kernel_rfl
      simp only [List.map_cons, List.map_nil]
      refine OpGives.val (w' := W) ?_ ⟨rfl, rfl⟩
      go_simp
      try with_reducible rfl
    case s2 =>
      intro g W hSW hd
      try simp only [Nat.zero_add, Nat.reduceAdd] at hd ⊢
      have h1 : g 1 = _ := hd 1 (by decide) (by kernel_rfl)
      with_reducible refine OpGives.pre_reads [(32, 1)] 46 ?_ ?_ ?_
      · rfl
      · kernel_rfl
      simp only [List.map_cons, List.map_nil]
      refine OpGives.val (w' := W) ?_ ⟨rfl, rfl⟩
      go_simp
      try with_reducible rfl
    case s3 =>
      intro g W hSW hd
      try simp only [Nat.zero_add, Nat.reduceAdd] at hd ⊢
      have h2 : g 2 = _ := hd 2 (by decide) (by kernel_rfl)
      with_reducible refine OpGives.pre_reads [(33, 2)] 46 ?_ ?_ ?_
      · rfl
      · kernel_rfl
      simp only [List.map_cons, List.map_nil]
      subst hSW; refine OpGives.val (v := .string s) (w' := W1.drew) ?_ ⟨rfl, rfl⟩; go_simp
    case s4 =>
      intro g W hSW hd
      try simp only [Nat.zero_add, Nat.reduceAdd] at hd ⊢
      with_reducible refine OpGives.pre_reads [] 46 ?_ ?_ ?_
      · rfl
      · kernel_rfl
      simp only [List.map_cons, List.map_nil]
      refine OpGives.val (w' := W) ?_ ⟨rfl, rfl⟩
      go_simp
      try with_reducible rfl
    case s5 =>
      intro g W hSW hd
      try simp only [Nat.zero_add, Nat.reduceAdd] at hd ⊢
      have h4 : g 4 = _ := hd 4 (by decide) (by kernel_rfl)
      with_reducible refine OpGives.pre_reads [(35, 4)] 46 ?_ ?_ ?_
      · rfl
      · kernel_rfl
      simp only [List.map_cons, List.map_nil]
      refine OpGives.val (w' := W) ?_ ⟨rfl, rfl⟩
      go_simp
      try with_reducible rfl
    case s6 =>
      intro g W hSW hd
      try simp only [Nat.zero_add, Nat.reduceAdd] at hd ⊢
      have h5 : g 5 = _ := hd 5 (by decide) (by kernel_rfl)
      with_reducible refine OpGives.pre_reads [(36, 5)] 46 ?_ ?_ ?_
      · rfl
      · kernel_rfl
      simp only [List.map_cons, List.map_nil]
      refine OpGives.val (w' := W) ?_ ⟨rfl, rfl⟩
      go_simp
      try with_reducible rfl
    case s7 =>
      intro g W hSW hd
      try simp only [Nat.zero_add, Nat.reduceAdd] at hd ⊢
      have h6 : g 6 = _ := hd 6 (by decide) (by kernel_rfl)
      with_reducible refine OpGives.pre_reads [(37, 6)] 46 ?_ ?_ ?_
      · rfl
      · kernel_rfl
      simp only [List.map_cons, List.map_nil]
      subst hSW; refine OpGives.val (v := .int .i64 ((p : Int) + (n : Int))) (w' := W1.drew) ?_ ⟨rfl, rfl⟩; go_simp
    case s8 =>
      intro g W hSW hd
      try simp only [Nat.zero_add, Nat.reduceAdd] at hd ⊢
      with_reducible refine OpGives.pre_reads [] 46 ?_ ?_ ?_
      · rfl
      · kernel_rfl
      simp only [List.map_cons, List.map_nil]
      refine OpGives.val (w' := W) ?_ ⟨rfl, rfl⟩
      go_simp
      try with_reducible rfl
    case s9 =>
      intro g W hSW hd
      try simp only [Nat.zero_add, Nat.reduceAdd] at hd ⊢
      have h7 : g 7 = _ := hd 7 (by decide) (by kernel_rfl)
      have h8 : g 8 = _ := hd 8 (by decide) (by kernel_rfl)
      with_reducible refine OpGives.pre_reads [(38, 7), (39, 8)] 46 ?_ ?_ ?_
      · rfl
      · kernel_rfl
      simp only [List.map_cons, List.map_nil]
      subst hSW; refine OpGives.val (v := .int .i64 (p : Int)) (w' := W1.drew) ?_ ⟨rfl, rfl⟩; go_simp; rw [IntKind.wrap_i64]; omega
    case s10 =>
      intro g W hSW hd
      try simp only [Nat.zero_add, Nat.reduceAdd] at hd ⊢
      with_reducible refine OpGives.pre_reads [] 46 ?_ ?_ ?_
      · rfl
      · kernel_rfl
      simp only [List.map_cons, List.map_nil]
      refine OpGives.val (w' := W) ?_ ⟨rfl, rfl⟩
      go_simp
      try with_reducible rfl
    case s11 =>
      intro g W hSW hd
      try simp only [Nat.zero_add, Nat.reduceAdd] at hd ⊢
      have h10 : g 10 = _ := hd 10 (by decide) (by kernel_rfl)
      with_reducible refine OpGives.pre_reads [(41, 10)] 46 ?_ ?_ ?_
      · rfl
      · kernel_rfl
      simp only [List.map_cons, List.map_nil]
      refine OpGives.val (w' := W) ?_ ⟨rfl, rfl⟩
      go_simp
      try with_reducible rfl
    case s12 =>
      intro g W hSW hd
      try simp only [Nat.zero_add, Nat.reduceAdd] at hd ⊢
      have h11 : g 11 = _ := hd 11 (by decide) (by kernel_rfl)
      with_reducible refine OpGives.pre_reads [(42, 11)] 46 ?_ ?_ ?_
      · rfl
      · kernel_rfl
      simp only [List.map_cons, List.map_nil]
      refine OpGives.val (w' := W) ?_ ⟨rfl, rfl⟩
      go_simp
      try with_reducible rfl
    case s13 =>
      intro g W hSW hd
      try simp only [Nat.zero_add, Nat.reduceAdd] at hd ⊢
      have h12 : g 12 = _ := hd 12 (by decide) (by kernel_rfl)
      with_reducible refine OpGives.pre_reads [(43, 12)] 46 ?_ ?_ ?_
      · rfl
      · kernel_rfl
      simp only [List.map_cons, List.map_nil]
      subst hSW; refine OpGives.val (v := .int .i64 ((p : Int) + (n : Int))) (w' := W1.drew) ?_ ⟨rfl, rfl⟩; go_simp
    case s14 =>
      intro g W hSW hd
      try simp only [Nat.zero_add, Nat.reduceAdd] at hd ⊢
      have h3 : g 3 = _ := hd 3 (by decide) (by kernel_rfl)
      have h9 : g 9 = _ := hd 9 (by decide) (by kernel_rfl)
      have h13 : g 13 = _ := hd 13 (by decide) (by kernel_rfl)
      with_reducible refine OpGives.pre_reads [(34, 3), (40, 9), (44, 13)] 46 ?_ ?_ ?_
      · rfl
      · kernel_rfl
      simp only [List.map_cons, List.map_nil]
      subst hSW; refine OpGives.val (v := .string (s.extract p (p + n))) (w' := W1.drew) ?_ ⟨rfl, rfl⟩; go_simp; rw [run_slice_string _ _ _ _ _ _ _ Tryz.underlying9 (by omega) (by omega) (by omega)]; rw [Int.toNat_natCast, show ((p : Int) + (n : Int)).toNat = p + n by omega]; rfl
    case hS => rintro a c h rfl; exact h
    case h0 => rfl
    case fin =>
      intro v W hSW hf
      subst hSW
      have h14 : v 14 = _ := hf 14 (Nat.lt_of_lt_of_eq (by decide : 14 < 15) rfl)
      clear hf
      generalize hF : Ord.pre _ _ v _ = F
      rw [Ord.pre_lit [some 31, some 32, some 33, some 34, some 35, some 36, some 37, some 38, some 39, some 40, some 41, some 42, some 43, some 44, some 45]
        (by kernel_rfl)] at hF
      simp only [Ord.puts, Nat.zero_add, Nat.reduceAdd] at hF
      subst hF
      rw [h14]
      clear h14
      refine any_one (i := 15) (by kernel_rfl) ?_
      refine wpOp_value (v := .string (s.extract p (p + n))) (w' := W1.drew) rfl rfl (by go_simp) ?_
      refine wpAny_done (by kernel_rfl) ?_ _
      try simp only [List.getElem_toArray, List.getElem_cons_succ, List.getElem_cons_zero]
      go_frame
      go_wp2_with fail
      go_ret
      exact ⟨rfl, HS.out, HM.out.drew⟩

set_option maxHeartbeats 8000000 in
set_option maxRecDepth 100000 in
theorem bytes_no (b : Nat) (s : ByteArray) (p n : Nat) (w : World) (h : RdAt b s p w) (hs : s.size ≤ 140737488355328) (hp : p ≤ s.size) (hn : s.size < p + n) (hnn : n ≤ 9223372036854775807) :
    Calls Tryz.prog 83 #[.pointer (some ⟨b, 0, none⟩), .int .i64 (n : Int)] w fun e w' => e = .panicked (wrongP s.size 3) ∧ RdAt b s p w' ∧ ModB b w w' := by
  have c0 : w.cell? ⟨b, 0, none⟩ = some (.string s) := by rw [Lib.cell_of_heap h]; rfl
  have c1 : w.cell? ⟨b, 1, none⟩ = some (.int .i64 (p : Int)) := by rw [Lib.cell_of_heap h]; rfl
  have hge : ¬ (n : Int) ≤ (s.size : Int) - (p : Int) := by omega
  have H := Lib.hid h
  clear h
  go_enter Tryz.func83, Tryz.ntmps83
  go_wp2_with fail
  refine' wp_region_factsT (S := (fun W => W = w.drew)) (R := (fun a b => a = b)) [eqF _ _, eqF _ _, eqF _ _, eqF _ (.string s), eqF _ _, eqF _ _, eqF _ _, eqF _ _, eqF _ (.int .i64 (p : Int)), eqF _ (.int .i64 ((s.size : Int) - (p : Int))), eqF _ _, eqF _ (.bool false), eqF _ _, eqF _ _, eqF _ _, eqF _ (.string s), eqF _ _] (by kernel_rfl) (by kernel_rfl) ?hS ?h0 (Ord.steps_cons ?s0 (Ord.steps_cons ?s1 (Ord.steps_cons ?s2 (Ord.steps_cons ?s3 (Ord.steps_cons ?s4 (Ord.steps_cons ?s5 (Ord.steps_cons ?s6 (Ord.steps_cons ?s7 (Ord.steps_cons ?s8 (Ord.steps_cons ?s9 (Ord.steps_cons ?s10 (Ord.steps_cons ?s11 (Ord.steps_cons ?s12 (Ord.steps_cons ?s13 (Ord.steps_cons ?s14 (Ord.steps_cons ?s15 (Ord.steps_cons ?s16 (Ord.steps_nil)))))))))))))))))) ?fin
  case s0 =>
    intro g W hSW hd
    try simp only [Nat.zero_add, Nat.reduceAdd] at hd ⊢
    with_reducible refine OpGives.pre_reads [] 46 ?_ ?_ ?_
    · rfl
    · kernel_rfl
    simp only [List.map_cons, List.map_nil]
    refine OpGives.val (w' := W) ?_ ⟨rfl, rfl⟩
    go_simp
    try with_reducible rfl
  case s1 =>
    intro g W hSW hd
    try simp only [Nat.zero_add, Nat.reduceAdd] at hd ⊢
    have h0 : g 0 = _ := hd 0 (by decide) (by kernel_rfl)
    with_reducible refine OpGives.pre_reads [(5, 0)] 46 ?_ ?_ ?_
    · rfl
    · kernel_rfl
    simp only [List.map_cons, List.map_nil]
    refine OpGives.val (w' := W) ?_ ⟨rfl, rfl⟩
    go_simp
    try with_reducible rfl
  case s2 =>
    intro g W hSW hd
    try simp only [Nat.zero_add, Nat.reduceAdd] at hd ⊢
    have h1 : g 1 = _ := hd 1 (by decide) (by kernel_rfl)
    with_reducible refine OpGives.pre_reads [(6, 1)] 46 ?_ ?_ ?_
    · rfl
    · kernel_rfl
    simp only [List.map_cons, List.map_nil]
    refine OpGives.val (w' := W) ?_ ⟨rfl, rfl⟩
    go_simp
    try with_reducible rfl
  case s3 =>
    intro g W hSW hd
    try simp only [Nat.zero_add, Nat.reduceAdd] at hd ⊢
    have h2 : g 2 = _ := hd 2 (by decide) (by kernel_rfl)
    with_reducible refine OpGives.pre_reads [(7, 2)] 46 ?_ ?_ ?_
    · rfl
    · kernel_rfl
    simp only [List.map_cons, List.map_nil]
    subst hSW; refine OpGives.val (v := .string s) (w' := w.drew) ?_ ⟨rfl, rfl⟩; go_simp
  case s4 =>
    intro g W hSW hd
    try simp only [Nat.zero_add, Nat.reduceAdd] at hd ⊢
    have h3 : g 3 = _ := hd 3 (by decide) (by kernel_rfl)
    with_reducible refine OpGives.pre_reads [(8, 3)] 46 ?_ ?_ ?_
    · rfl
    · kernel_rfl
    simp only [List.map_cons, List.map_nil]
    refine OpGives.val (w' := W) ?_ ⟨rfl, rfl⟩
    go_simp
    try with_reducible rfl
  case s5 =>
    intro g W hSW hd
    try simp only [Nat.zero_add, Nat.reduceAdd] at hd ⊢
    with_reducible refine OpGives.pre_reads [] 46 ?_ ?_ ?_
    · rfl
    · kernel_rfl
    simp only [List.map_cons, List.map_nil]
    refine OpGives.val (w' := W) ?_ ⟨rfl, rfl⟩
    go_simp
    try with_reducible rfl
  case s6 =>
    intro g W hSW hd
    try simp only [Nat.zero_add, Nat.reduceAdd] at hd ⊢
    have h5 : g 5 = _ := hd 5 (by decide) (by kernel_rfl)
    with_reducible refine OpGives.pre_reads [(10, 5)] 46 ?_ ?_ ?_
    · rfl
    · kernel_rfl
    simp only [List.map_cons, List.map_nil]
    refine OpGives.val (w' := W) ?_ ⟨rfl, rfl⟩
    go_simp
    try with_reducible rfl
  case s7 =>
    intro g W hSW hd
    try simp only [Nat.zero_add, Nat.reduceAdd] at hd ⊢
    have h6 : g 6 = _ := hd 6 (by decide) (by kernel_rfl)
    with_reducible refine OpGives.pre_reads [(11, 6)] 46 ?_ ?_ ?_
    · rfl
    · kernel_rfl
    simp only [List.map_cons, List.map_nil]
    refine OpGives.val (w' := W) ?_ ⟨rfl, rfl⟩
    go_simp
    try with_reducible rfl
  case s8 =>
    intro g W hSW hd
    try simp only [Nat.zero_add, Nat.reduceAdd] at hd ⊢
    have h7 : g 7 = _ := hd 7 (by decide) (by kernel_rfl)
    with_reducible refine OpGives.pre_reads [(12, 7)] 46 ?_ ?_ ?_
    · rfl
    · kernel_rfl
    simp only [List.map_cons, List.map_nil]
    subst hSW; refine OpGives.val (v := .int .i64 (p : Int)) (w' := w.drew) ?_ ⟨rfl, rfl⟩; go_simp
  case s9 =>
    intro g W hSW hd
    try simp only [Nat.zero_add, Nat.reduceAdd] at hd ⊢
    have h4 : g 4 = _ := hd 4 (by decide) (by kernel_rfl)
    have h8 : g 8 = _ := hd 8 (by decide) (by kernel_rfl)
    with_reducible refine OpGives.pre_reads [(9, 4), (13, 8)] 46 ?_ ?_ ?_
    · rfl
    · kernel_rfl
    simp only [List.map_cons, List.map_nil]
    subst hSW; refine OpGives.val (v := .int .i64 ((s.size : Int) - (p : Int))) (w' := w.drew) ?_ ⟨rfl, rfl⟩; go_simp; rw [IntKind.wrap_i64]; omega
  case s10 =>
    intro g W hSW hd
    try simp only [Nat.zero_add, Nat.reduceAdd] at hd ⊢
    with_reducible refine OpGives.pre_reads [] 46 ?_ ?_ ?_
    · rfl
    · kernel_rfl
    simp only [List.map_cons, List.map_nil]
    refine OpGives.val (w' := W) ?_ ⟨rfl, rfl⟩
    go_simp
    try with_reducible rfl
  case s11 =>
    intro g W hSW hd
    try simp only [Nat.zero_add, Nat.reduceAdd] at hd ⊢
    have h9 : g 9 = _ := hd 9 (by decide) (by kernel_rfl)
    have h10 : g 10 = _ := hd 10 (by decide) (by kernel_rfl)
    with_reducible refine OpGives.pre_reads [(14, 9), (15, 10)] 46 ?_ ?_ ?_
    · rfl
    · kernel_rfl
    simp only [List.map_cons, List.map_nil]
    subst hSW; refine OpGives.val (v := .bool false) (w' := w.drew) ?_ ⟨rfl, rfl⟩; go_simp
  case s12 =>
    intro g W hSW hd
    try simp only [Nat.zero_add, Nat.reduceAdd] at hd ⊢
    with_reducible refine OpGives.pre_reads [] 46 ?_ ?_ ?_
    · rfl
    · kernel_rfl
    simp only [List.map_cons, List.map_nil]
    refine OpGives.val (w' := W) ?_ ⟨rfl, rfl⟩
    go_simp
    try with_reducible rfl
  case s13 =>
    intro g W hSW hd
    try simp only [Nat.zero_add, Nat.reduceAdd] at hd ⊢
    have h12 : g 12 = _ := hd 12 (by decide) (by kernel_rfl)
    with_reducible refine OpGives.pre_reads [(17, 12)] 46 ?_ ?_ ?_
    · rfl
    · kernel_rfl
    simp only [List.map_cons, List.map_nil]
    refine OpGives.val (w' := W) ?_ ⟨rfl, rfl⟩
    go_simp
    try with_reducible rfl
  case s14 =>
    intro g W hSW hd
    try simp only [Nat.zero_add, Nat.reduceAdd] at hd ⊢
    have h13 : g 13 = _ := hd 13 (by decide) (by kernel_rfl)
    with_reducible refine OpGives.pre_reads [(18, 13)] 46 ?_ ?_ ?_
    · rfl
    · kernel_rfl
    simp only [List.map_cons, List.map_nil]
    refine OpGives.val (w' := W) ?_ ⟨rfl, rfl⟩
    go_simp
    try with_reducible rfl
  case s15 =>
    intro g W hSW hd
    try simp only [Nat.zero_add, Nat.reduceAdd] at hd ⊢
    have h14 : g 14 = _ := hd 14 (by decide) (by kernel_rfl)
    with_reducible refine OpGives.pre_reads [(19, 14)] 46 ?_ ?_ ?_
    · rfl
    · kernel_rfl
    simp only [List.map_cons, List.map_nil]
    subst hSW; refine OpGives.val (v := .string s) (w' := w.drew) ?_ ⟨rfl, rfl⟩; go_simp
  case s16 =>
    intro g W hSW hd
    try simp only [Nat.zero_add, Nat.reduceAdd] at hd ⊢
    have h15 : g 15 = _ := hd 15 (by decide) (by kernel_rfl)
    with_reducible refine OpGives.pre_reads [(20, 15)] 46 ?_ ?_ ?_
    · rfl
    · kernel_rfl
    simp only [List.map_cons, List.map_nil]
    refine OpGives.val (w' := W) ?_ ⟨rfl, rfl⟩
    go_simp
    try with_reducible rfl
  case hS => rintro a c h rfl; exact h
  case h0 => rfl
  case fin =>
    intro v W hSW hf
    subst hSW
    have h11 : v 11 = _ := hf 11 (Nat.lt_of_lt_of_eq (by decide : 11 < 17) rfl)
    have h16 : v 16 = _ := hf 16 (Nat.lt_of_lt_of_eq (by decide : 16 < 17) rfl)
    clear hf
    generalize hF : Ord.pre _ _ v _ = F
    rw [Ord.pre_lit [some 5, some 6, some 7, some 8, some 9, some 10, some 11, some 12, some 13, some 14, some 15, some 16, some 17, some 18, some 19, some 20, some 21]
      (by kernel_rfl)] at hF
    simp only [Ord.puts, Nat.zero_add, Nat.reduceAdd] at hF
    subst hF
    rw [h11, h16]
    clear h11 h16
    refine any_one (i := 17) (by kernel_rfl) ?_
    refine wpOp_panics (f := 85) (args := #[.bool false, .int .i64 (s.size : Int), .int .i64 3]) (w' := w.drew) rfl rfl (by go_simp) ((need_no _ _ _).mono fun e w'' he => ⟨_, he.1, ?_⟩)
    rw [he.2]
    exact ⟨rfl, rfl, H.out, (ModB.refl b w).drew⟩
end Go.Proofs.YtgjlchcfdbmmlaaGreatDoor.PObjectPuts
namespace Go.Proofs.YtgjlchcfdbmmlaaGreatDoor.PObjectPuts
open Go.RowKit Go.Proofs.YtgjlchcfdbmmlaaGreatDoor.Ord Go.Proofs.YtgjlchcfdbmmlaaGreatDoorW.PrintWords Go.Proofs.YtgjlchcfdbmmlaaGreatDoorW.PrintLast Go.Proofs.YtgjlchcfdbmmlaaGreatDoorW.PrintMore

/-- What is read: something and where it ends, or an error's place and number. -/
inductive DR (α : Type) where
  | ok (x : α) (q : Nat)
  | bad (p e : Nat)
def byteAt (s : ByteArray) (p : Nat) : Nat := (s.data.toList.getD p 0).toNat
/-- The number of n bytes behind p. -/
def numAt (s : ByteArray) (p : Nat) : Nat → Nat
  | 0 => 0
  | n + 1 => numAt s p n * 256 + byteAt s (p + n)
def widthOf (k : Nat) : Nat := if k = 1 ∨ k = 2 then 8 else 2
def mostOf (k : Nat) : Nat := if k = 1 ∨ k = 2 then 9223372036854775807 else if k = 3 then 65535 else 4095
/-- k cells in line, each by f. -/
def manyW (f : Nat → DR S38) : Nat → Nat → List S38 → DR (List S38)
  | 0, q, acc => .ok acc q
  | k + 1, q, acc => match f q with
    | .ok x q' => manyW f k q' (acc ++ [x])
    | .bad p e => .bad p e
/-- The cell at p, what lies in it by g. -/
def cellW (s : ByteArray) (deep : Bool) (g : Nat → DR S38) (p : Nat) : DR S38 :=
  if s.size < p + 1 then .bad s.size 3
  else
    let b := byteAt s p
    if b / 16 < 1 ∨ 4 < b / 16 then .bad p 4
    else if widthOf (b / 16) < b % 16 then .bad p 4
    else if deep = false then .bad p 5
    else if s.size < p + 1 + b % 16 then .bad s.size 3
    else if 0 < b % 16 ∧ byteAt s (p + 1) = 0 then .bad p 4
    else
      let k := numAt s (p + 1) (b % 16)
      let q := p + 1 + b % 16
      if mostOf (b / 16) < k then .bad p 4
      else if b / 16 = 1 then .ok ⟨1, (k : Int), ⟨#[]⟩, []⟩ q
      else if b / 16 = 2 then .ok ⟨1, -1 - (k : Int), ⟨#[]⟩, []⟩ q
      else if b / 16 = 3 then (if s.size < q + k then .bad s.size 3 else .ok ⟨2, 0, s.extract q (q + k), []⟩ (q + k))
      else match manyW g k q [] with
        | .ok l q' => .ok ⟨3, 0, ⟨#[]⟩, l⟩ q'
        | .bad p' e => .bad p' e
def cellD (s : ByteArray) : Nat → Nat → DR S38
  | 0 => cellW s false (fun _ => .bad 0 0)
  | d + 1 => cellW s true (cellD s d)
/-- What the reader's call leaves. -/
def CellPost (r : DR S38) (b : Nat) (s : ByteArray) (p : Nat) (w : World) (e : Ending) (w' : World) : Prop :=
  ModB b w w' ∧ match r with
  | .ok x q => (∃ v, e = .returned (.agg #[.int .i64 x.f0, .int .i64 x.f1, .string x.f2, v]) ∧ Kd.R k38 38 w' w.heap.size (fun k => k ≠ b) v x.f3) ∧ RdAt b s q w' ∧ p ≤ q ∧ q ≤ s.size
  | .bad p e0 => e = .panicked (wrongP (p : Int) (e0 : Int))
end Go.Proofs.YtgjlchcfdbmmlaaGreatDoor.PObjectPuts
namespace Go.Proofs.YtgjlchcfdbmmlaaGreatDoor.PObjectPuts
open Go.RowKit Go.Proofs.YtgjlchcfdbmmlaaGreatDoor.Ord Go.Proofs.YtgjlchcfdbmmlaaGreatDoorW.PrintWords Go.Proofs.YtgjlchcfdbmmlaaGreatDoorW.PrintLast Go.Proofs.YtgjlchcfdbmmlaaGreatDoorW.PrintMore

theorem R_slice {α : Type} {d : Kd α} {e : Nat} {w : World} {base : Nat} {ok : Nat → Prop} {v : Value} {xs : List α} (h : d.R e w base ok v xs) : ∃ A c, v = .slice A xs.length c := by
  obtain ⟨A, c, hv, _⟩ := Kd.R_reads h
  exact ⟨A, c, hv⟩
theorem ModB.put {b : Nat} {w W : World} (h : ModB b w W) (g : Nat) (hg : w.heap.size ≤ g) (j : Nat) (v : Value) : ModB b w (W.setCell ⟨g, j, none⟩ v) :=
  ⟨h.os, h.tape, h.output, by have := h.size; simpa [World.setCell] using this, fun k hk hb => (Below.heap_setCell _ _ _ _ (show k ≠ g by omega)).trans (h.block k hk hb)⟩
theorem RdAt.put {b : Nat} {s : ByteArray} {q : Nat} {W : World} (h : RdAt b s q W) (g : Nat) (hg : b ≠ g) (j : Nat) (v : Value) : RdAt b s q (W.setCell ⟨g, j, none⟩ v) :=
  (Below.heap_setCell W ⟨g, j, none⟩ v b hg).trans h
/-- The row's blocks: neither the reader's nor any up to the variable's. -/
def okR (b g : Nat) (k : Nat) : Prop := k ≠ b ∧ g < k
/-- Between rounds: the variable in block g holds the row v of acc; the reader stands at q. -/
structure OutAt (W1 : World) (b g : Nat) (s : ByteArray) (v : Value) (acc : List S38) (q : Nat) (W : World) : Prop where
  mod : ModB b W1 W
  ge : W1.heap.size ≤ g
  lt : b < W1.heap.size
  blk : W.heap[g]? = some (.cells #[.int .i64 3, .int .i64 0, .string (⟨#[]⟩ : ByteArray), v] 38 (0, 0))
  row : Kd.R k38 38 W (g + 1) (okR b g) v acc
  rd : RdAt b s q W
/-- Blocks of the row v may have turned, and the reader. -/
structure ModV (b : Nat) (v : Value) (w w' : World) : Prop where
  os : w'.os = w.os
  tape : w'.tape = w.tape
  output : w'.output = w.output
  size : w.heap.size ≤ w'.heap.size
  block : ∀ k, k < w.heap.size → k ≠ b → v.ownBlock ≠ some k → w'.heap[k]? = w.heap[k]?
theorem ModV.trans {b : Nat} {v : Value} {w w1 w2 : World} (h : ModV b v w w1) (k : ModV b v w1 w2) : ModV b v w w2 :=
  ⟨k.os.trans h.os, k.tape.trans h.tape, k.output.trans h.output, Nat.le_trans h.size k.size, fun i hi hb hv => (k.block i (Nat.lt_of_lt_of_le hi h.size) hb hv).trans (h.block i hi hb hv)⟩
theorem ModV.of_B {b : Nat} {v : Value} {w w' : World} (h : ModB b w w') : ModV b v w w' := ⟨h.os, h.tape, h.output, h.size, fun k hk hb _ => h.block k hk hb⟩
theorem ModV.drew {b : Nat} {v : Value} {w : World} : ModV b v w w.drew := ⟨rfl, rfl, rfl, Nat.le_refl _, fun _ _ _ _ => rfl⟩
theorem ModV.of_grown {b : Nat} {v : Value} {w w' : World} (h : w.grownBy w' v.ownBlock) : ModV b v w w' := ⟨h.os, h.tape, h.output, h.size, fun k hk _ hv => h.block k hk (fun e => hv e.symm)⟩
/-- Each operation's relation: the append (7) turns the row, the others the reader at most. -/
def Rr (b : Nat) (v : Value) (i : Nat) (a c : World) : Prop := if i = 7 then a.grownBy c v.ownBlock else ModB b a c
theorem Rr.modV {b : Nat} {v : Value} {i : Nat} {a c : World} (h : Rr b v i a c) : ModV b v a c := by
  unfold Rr at h
  split at h
  · exact ModV.of_grown h
  · exact ModV.of_B h
/-- What the call hands back. -/
def childP (b : Nat) (v : Value) (x : S38) (lo : Nat) (u : Value) (W : World) : Prop :=
  ∃ v3, u = .agg #[.int .i64 x.f0, .int .i64 x.f1, .string x.f2, v3] ∧ Kd.R k38 38 W lo (fun k => k ≠ b ∧ v.ownBlock ≠ some k) v3 x.f3
theorem childP.st {b : Nat} {v : Value} {x : S38} {lo : Nat} {u : Value} {W W' : World} (h : childP b v x lo u W) (hm : ModV b v W W') : childP b v x lo u W' := by
  obtain ⟨v3, e, hr⟩ := h
  exact ⟨v3, e, Kd.R_step hr (fun k hk hl => hm.block k hl hk.1 hk.2)⟩
/-- The literal of one cell. -/
def litP (b : Nat) (v : Value) (x : S38) (lo : Nat) (u : Value) (W : World) : Prop :=
  ∃ g v3, u = .slice (some ⟨g, 0, none⟩) 1 1 ∧ W.heap[g]? = some (.cells #[.int .i64 x.f0, .int .i64 x.f1, .string x.f2, v3] 38 (0, 0)) ∧ g ≠ b ∧ v.ownBlock ≠ some g ∧ v3.oneCell' = true ∧ Kd.R k38 38 W lo (fun k => k ≠ b ∧ v.ownBlock ≠ some k) v3 x.f3
theorem litP.st {b : Nat} {v : Value} {x : S38} {lo : Nat} {u : Value} {W W' : World} (h : litP b v x lo u W) (hm : ModV b v W W') : litP b v x lo u W' := by
  obtain ⟨g, v3, e, hg, hb, hv, h1, hr⟩ := h
  exact ⟨g, v3, e, (hm.block g (Array.getElem?_eq_some_iff.1 hg).1 hb hv).trans hg, hb, hv, h1, Kd.R_step hr (fun k hk hl => hm.block k hl hk.1 hk.2)⟩
/-- The row, one cell longer. -/
def rowP (b g : Nat) (xs : List S38) (u : Value) (W : World) : Prop := Kd.R k38 38 W (g + 1) (okR b g) u xs
theorem rowP.st {b g : Nat} {xs : List S38} {u : Value} {W W' : World} (h : rowP b g xs u W) (hm : ModB b W W') : rowP b g xs u W' := Kd.R_step h (fun k hk hl => hm.block k hl hk.1)
/-- What holds within the round's region, L telling which operations are over. -/
def InR (wr : World) (b g : Nat) (s : ByteArray) (v : Value) (acc : List S38) (q q' : Nat) (L : Nat → Bool) (W : World) : Prop :=
  ModV b v wr W ∧ (L 7 = false → Kd.R k38 38 W (g + 1) (okR b g) v acc) ∧ (L 5 = false → RdAt b s q W) ∧ (L 5 = true → RdAt b s q' W ∧ q ≤ q' ∧ q' ≤ s.size)
theorem own_lt_R {b g : Nat} {v : Value} {acc : List S38} {W : World} (h : Kd.R k38 38 W (g + 1) (okR b g) v acc) : ∀ k, v.ownBlock = some k → g < k ∧ k ≠ b ∧ k < W.heap.size := fun k hk => by
  have h0 := h.1 k hk
  obtain ⟨_, inner, ho, _⟩ := h
  exact ⟨h0.2, h0.1, own_lt ho k hk⟩
theorem infoCell : (Tryz.prog.info? 38).map (fun i => (i.zero, i.size, i.bytes)) = some (some (.agg #[.int .i64 0, .int .i64 0, .string (⟨#[]⟩ : ByteArray), .slice none 0 0]), 4, 56) := by kernel_rfl
/-- The append. -/
theorem append_cell {b g : Nat} {s : ByteArray} {v : Value} {acc : List S38} {q q' : Nat} {wr W : World} {L : Nat → Bool} {x : S38} {lo : Nat} {u : Value} (hS : InR wr b g s v acc q q' L W) (hL : L 7 = false) (hb : b < wr.heap.size) (hg : g < wr.heap.size) (hlo : g + 1 ≤ lo) (hlg : ∀ k, lo ≤ k → g < k)
    (h6 : litP b v x lo u W) (hn : acc.length ≤ 1000000) (ty : TypeId) :
    ∃ v' W', (Builtin.append_ #[36, 36] ty #[v, u]).run Tryz.prog W = .ok v' W' ∧ W.grownBy W' v.ownBlock ∧ rowP b g (acc ++ [x]) v' W' ∧ InR wr b g s v acc q q' (fun k => if k = 7 then true else L k) W' := by
  obtain ⟨hm, hrow, h5, h5'⟩ := hS
  have hR := hrow hL
  obtain ⟨g6, v3, rfl, hg6, hgb, hgv, h1, hr3⟩ := h6
  obtain ⟨i0, hi0, hz0, hz1, hz2⟩ := info_parts infoCell
  obtain ⟨h0, inner, hown, hreps⟩ := hR
  have hne := own_lt_R (hrow hL)
  have hbn : (acc.length + 1) * 56 ≤ 1000001 * 56 := Nat.mul_le_mul (by omega) (Nat.le_refl _)
  obtain ⟨h, cap, W', hr, hown', hgr, hat, _⟩ := run_append_lies (P := Tryz.prog) W 36 ty (g + 1) 38 i0 _ 4 56 Tryz.underlying36 hi0 hz0 hz1 hz2 (by rfl) (by decide) v acc.length _ hown ⟨g6, 0, none⟩ 1 1 [.int .i64 x.f0, .int .i64 x.f1, .string x.f2, v3]
    (by rfl) (World.news_of_block (cs := #[.int .i64 x.f0, .int .i64 x.f1, .string x.f2, v3]) hg6) (by
      intro u hu
      simp only [List.mem_cons, List.not_mem_nil, or_false] at hu
      rcases hu with rfl | rfl | rfl | rfl
      · rfl
      · rfl
      · rfl
      · exact h1) (by decide) (by unfold maxLen; omega) (by omega) (by have := hm.size; omega) W.heap.size rfl
  have hm3 : Kd.M k38 W (g + 1) (fun k => (k ≠ b ∧ v.ownBlock ≠ some k) ∧ lo ≤ k) x [.int .i64 x.f0, .int .i64 x.f1, .string x.f2, v3] :=
    k38_mkM W (g + 1) _ x (Kd.R_lower (Kd.R_mono (Kd.R_bound hr3) (fun k hk => ⟨hk.1, hk.2.1⟩)) hlo)
  have hres := Kd.R_appended (d := k38) (e := 38) (base := g + 1) (ok := okR b g) (W := W) (w1 := W') (v := v) (v1 := .slice (some ⟨h, 0, none⟩) (acc.length + 1) cap) h0 hreps hm3 (fun k hk => ⟨⟨hk.1.1, hlg k hk.2⟩, fun e => hk.1.2 e.symm⟩) (fun k hk => ⟨by have := hm.size; omega, by have := hm.size; omega⟩) hown' hgr
    (hat.elim (fun e => .inl (by rw [e]; rfl)) (fun e => .inr ⟨h, rfl, by omega⟩))
  refine ⟨_, W', hr, hgr, hres, hm.trans (ModV.of_grown hgr), fun e => (by cases e), fun e => ?_, fun e => ?_⟩
  · have hr := h5 e
    exact (hgr.block b (by have := hm.size; omega) (fun e => (hne b e.symm).2.1 rfl)).trans hr
  · have hr := h5' e
    exact ⟨(hgr.block b (by have := hm.size; omega) (fun e => (hne b e.symm).2.1 rfl)).trans hr.1, hr.2⟩
theorem Rr.of_B {b : Nat} {v : Value} {i : Nat} {a c : World} (hi : i ≠ 7) (h : ModB b a c) : Rr b v i a c := by unfold Rr; rw [if_neg hi]; exact h
theorem Rr.of_grown {b : Nat} {v : Value} {a c : World} (h : a.grownBy c v.ownBlock) : Rr b v 7 a c := by unfold Rr; rw [if_pos rfl]; exact h
theorem Rr.toB {b : Nat} {v : Value} {i : Nat} {a c : World} (hi : i ≠ 7) (h : Rr b v i a c) : ModB b a c := by unfold Rr at h; rw [if_neg hi] at h; exact h
/-- The call within the round. -/
theorem call_post {wr W w' : World} {b g : Nat} {s : ByteArray} {v : Value} {acc : List S38} {q q' : Nat} {L : Nat → Bool} {x : S38} {e : Ending} (hS : InR wr b g s v acc q q' L W) (hb : b < wr.heap.size) (hv : ∀ k, v.ownBlock = some k → k < wr.heap.size)
    (hp : CellPost (.ok x q') b s q W e w') : ∃ u, e = .returned u ∧ Rr b v 5 W w' ∧ childP b v x wr.heap.size u w' ∧ InR wr b g s v acc q q' (fun k => if k = 5 then true else L k) w' := by
  obtain ⟨hm, ⟨v3, he, hR⟩, hrd, hq⟩ := hp
  obtain ⟨h1, h2, h3, h4⟩ := hS
  refine ⟨_, he, Rr.of_B (by decide) hm, ⟨v3, rfl, ?_⟩, h1.trans (ModV.of_B hm), fun e => ?_, fun e => (by cases e), fun _ => ⟨hrd, hq⟩⟩
  · exact Kd.R_lower (Kd.R_mono (Kd.R_bound hR) (fun k hk => ⟨hk.1, fun e => by have := hv k e; have := h1.size; omega⟩)) h1.size
  · exact Kd.R_step (h2 e) (fun k hk hl => hm.block k hl hk.1)
/-- The literal within the round. -/
theorem lit_post {wr W : World} {b g : Nat} {s : ByteArray} {v v3 : Value} {acc : List S38} {q q' : Nat} {L : Nat → Bool} {x : S38} (hS : InR wr b g s v acc q q' L W) (hb : b < wr.heap.size) (hv : ∀ k, v.ownBlock = some k → k < wr.heap.size) (h1 : v3.oneCell' = true)
    (hR : Kd.R k38 38 W wr.heap.size (fun k => k ≠ b ∧ v.ownBlock ≠ some k) v3 x.f3) :
    Rr b v 6 W (W.alloc (.cells #[.int .i64 x.f0, .int .i64 x.f1, .string x.f2, v3] 38)) ∧ litP b v x wr.heap.size (.slice (some ⟨W.heap.size, 0, none⟩) 1 1) (W.alloc (.cells #[.int .i64 x.f0, .int .i64 x.f1, .string x.f2, v3] 38)) ∧
    InR wr b g s v acc q q' (fun k => if k = 6 then true else L k) (W.alloc (.cells #[.int .i64 x.f0, .int .i64 x.f1, .string x.f2, v3] 38)) := by
  obtain ⟨m1, m2, m3, m4⟩ := hS
  have hn : Below W.heap.size W (W.alloc (.cells #[.int .i64 x.f0, .int .i64 x.f1, .string x.f2, v3] 38)) := (Below.refl _ _).alloc (Nat.le_refl _) _
  refine ⟨Rr.of_B (by decide) (ModB.of_below hn), ⟨_, _, rfl, heap_alloc_last _ _, by have := m1.size; omega, fun e => by have := hv _ e; have := m1.size; omega, h1, Kd.R_below hR hn⟩, m1.trans (ModV.of_B (ModB.of_below hn)), fun e => Kd.R_below (m2 e) hn, fun e => (m3 e).kept hn, fun e => ⟨(m4 e).1.kept hn, (m4 e).2⟩⟩
/-- The facts of the round's region stay. -/
theorem facts_st {b g lo : Nat} {v : Value} {x : S38} {acc : List S38} {V0 V1 V2 V3 V4 : Value} : ∀ (i j : Nat) (u : Value) (w w' : World), i ≠ j →
    factM [eqM V0, eqM V1, eqM V2, eqM V3, eqM V4, childP b v x lo, litP b v x lo, rowP b g (acc ++ [x])] i u w → Rr b v j w w' → factM [eqM V0, eqM V1, eqM V2, eqM V3, eqM V4, childP b v x lo, litP b v x lo, rowP b g (acc ++ [x])] i u w'
  | 0, _, _, _, _, _, h, _ => h
  | 1, _, _, _, _, _, h, _ => h
  | 2, _, _, _, _, _, h, _ => h
  | 3, _, _, _, _, _, h, _ => h
  | 4, _, _, _, _, _, h, _ => h
  | 5, _, _, _, _, _, h, hR => childP.st h hR.modV
  | 6, _, _, _, _, _, h, hR => litP.st h hR.modV
  | 7, j, _, _, _, hij, h, hR => rowP.st h (Rr.toB (Ne.symm hij) hR)
  | n + 8, _, _, _, _, _, _, _ => trivial
/-- Nothing is handed back. -/
def badM : Value → World → Prop := fun _ _ => False
theorem facts_bad {b : Nat} {V0 V1 V2 V3 V4 V7 : Value} : ∀ (i j : Nat) (u : Value) (w w' : World), i ≠ j →
    factM [eqM V0, eqM V1, eqM V2, eqM V3, eqM V4, badM, badM, eqM V7] i u w → ModB b w w' → factM [eqM V0, eqM V1, eqM V2, eqM V3, eqM V4, badM, badM, eqM V7] i u w'
  | 0, _, _, _, _, _, h, _ => h
  | 1, _, _, _, _, _, h, _ => h
  | 2, _, _, _, _, _, h, _ => h
  | 3, _, _, _, _, _, h, _ => h
  | 4, _, _, _, _, _, h, _ => h
  | 5, _, _, _, _, _, h, _ => h
  | 6, _, _, _, _, _, h, _ => h
  | 7, _, _, _, _, _, h, _ => h
  | n + 8, _, _, _, _, _, _, _ => trivial
/-- The longer row stored. -/
theorem out_step {W1 wr W : World} {b g : Nat} {s : ByteArray} {v v7 : Value} {acc : List S38} {x : S38} {q q' : Nat} (ho : OutAt W1 b g s v acc q wr) (hm : ModV b v wr W) (hr : rowP b g (acc ++ [x]) v7 W) (hrd : RdAt b s q' W) :
    OutAt W1 b g s v7 (acc ++ [x]) q' (W.setCell ⟨g, 3, none⟩ v7) := by
  have hown := own_lt_R ho.row
  have hgl := (Array.getElem?_eq_some_iff.1 ho.blk).1
  have hgb : g ≠ b := by have := ho.lt; have := ho.ge; omega
  have hb := (hm.block g hgl hgb (fun e => Nat.lt_irrefl _ (hown _ e).1)).trans ho.blk
  have hm1 : ModB b W1 W := ⟨hm.os.trans ho.mod.os, hm.tape.trans ho.mod.tape, hm.output.trans ho.mod.output, Nat.le_trans ho.mod.size hm.size, fun k hk hkb =>
    (hm.block k (Nat.lt_of_lt_of_le hk ho.mod.size) hkb (fun e => by have := (hown _ e).1; have := ho.ge; omega)).trans (ho.mod.block k hk hkb)⟩
  exact ⟨hm1.put g ho.ge 3 v7, ho.ge, ho.lt, blk_put (cs := #[.int .i64 3, .int .i64 0, .string (⟨#[]⟩ : ByteArray), v]) hb 3 _ rfl,
    Kd.R_far (p := ⟨g, 3, none⟩) hr (fun k hk => Nat.ne_of_gt hk.2) v7, hrd.put g (Ne.symm hgb) 3 v7⟩
end Go.Proofs.YtgjlchcfdbmmlaaGreatDoor.PObjectPuts
