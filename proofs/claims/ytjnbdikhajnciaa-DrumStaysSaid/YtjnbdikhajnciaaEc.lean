/- The drum: burn, Arm. -/
import Derived.Test.YtjnbdikhajnciaaEb
namespace Go.Proofs.Ytjnbdikhajnciaa.Drum
open Go.RowKit Go.Proofs.Ytjnbdikhajnciaa.Ord Go.Proofs.YtjnbdikhajnciaaW.PrintWords Go.Proofs.Ytjnbdikhajnciaa.Base

theorem cells_set {w : World} {b : Nat} {c : Array Value} {t : TypeId} (h : w.heap[b]? = some (.cells c t (0, 0))) (i : Nat) (v : Value) :
    (w.setCell ⟨b, i, none⟩ v).heap[b]? = some (.cells (c.setIfInBounds i v) t (0, 0)) := by
  simp [World.setCell, Array.getElem?_modify, h]
theorem DCell.set0 {w : World} {b : Nat} {sv lv : Value} {armed down : Bool} {left : Int} (h : DCell w b sv lv armed left down) (v : Value) : DCell (w.setCell ⟨b, 0, none⟩ v) b v lv armed left down := cells_set h 0 v
theorem DCell.set1 {w : World} {b : Nat} {sv lv : Value} {armed down : Bool} {left : Int} (h : DCell w b sv lv armed left down) (v : Value) : DCell (w.setCell ⟨b, 1, none⟩ v) b sv v armed left down := cells_set h 1 v
theorem DCell.set2 {w : World} {b : Nat} {sv lv : Value} {armed down : Bool} {left : Int} (h : DCell w b sv lv armed left down) (v : Bool) : DCell (w.setCell ⟨b, 2, none⟩ (.bool v)) b sv lv v left down := cells_set h 2 _
theorem DCell.set3 {w : World} {b : Nat} {sv lv : Value} {armed down : Bool} {left : Int} (h : DCell w b sv lv armed left down) (v : Int) : DCell (w.setCell ⟨b, 3, none⟩ (.int .i64 v)) b sv lv armed v down := cells_set h 3 _
theorem DCell.set4 {w : World} {b : Nat} {sv lv : Value} {armed down : Bool} {left : Int} (h : DCell w b sv lv armed left down) (v : Bool) : DCell (w.setCell ⟨b, 4, none⟩ (.bool v)) b sv lv armed left v := cells_set h 4 _

/-- A call counts: is the power on? -/
def burns (armed : Bool) (left : Int) (down : Bool) : Int × Int × Bool :=
  if armed = true ∧ left = 0 then (9, left, true) else if down = true then (9, left, down) else (0, IntKind.i64.wrap (left - 1), down)

set_option maxHeartbeats 8000000 in
theorem burn_at (b : Nat) (sv lv : Value) (armed down : Bool) (left : Int) (w : World) (h : DCell w b sv lv armed left down) :
    Calls Try.prog 55 #[.pointer (some ⟨b, 0, none⟩)] w fun e w' => e = .returned (.int .i64 (burns armed left down).1) ∧
      DCell w' b sv lv armed (burns armed left down).2.1 (burns armed left down).2.2 ∧ Mod (fun k => k = b) w w' := by
  obtain ⟨c0, c1, c2, c3, c4⟩ := h.cells
  have f3 := h.free 3
  have f4 := h.free 4
  have H := Lib.hid h
  clear h c0 c1
  by_cases ha : armed = true ∧ left = 0
  · obtain ⟨rfl, rfl⟩ := ha
    go_enter Try.func55, Try.ntmps55
    go_wp2
    go_ret
    exact ⟨rfl, H.out.set4 true, Mod.setCell _ _ _ rfl⟩
  · cases down with
    | true =>
      have e : burns armed left true = (9, left, true) := by unfold burns; rw [if_neg ha, if_pos rfl]
      rw [e]
      cases armed with
      | true =>
        have hl : left ≠ 0 := fun e => ha ⟨rfl, e⟩
        clear e ha
        go_enter Try.func55, Try.ntmps55
        go_wp2
        go_ret
        exact ⟨rfl, H.out, Mod.refl _ _⟩
      | false =>
        clear e ha
        go_enter Try.func55, Try.ntmps55
        go_wp2
        go_ret
        exact ⟨rfl, H.out, Mod.refl _ _⟩
    | false =>
      have e : burns armed left false = (0, IntKind.i64.wrap (left - 1), false) := by unfold burns; rw [if_neg ha, if_neg (by simp)]
      rw [e]
      obtain ⟨nl, hnl⟩ : ∃ n, IntKind.i64.wrap (left - 1) = n := ⟨_, rfl⟩
      rw [hnl]
      cases armed with
      | true =>
        have hl : left ≠ 0 := fun e => ha ⟨rfl, e⟩
        clear e ha
        go_enter Try.func55, Try.ntmps55
        go_wp2
        go_ret
        exact ⟨rfl, H.out.set3 nl, Mod.setCell _ _ _ rfl⟩
      | false =>
        clear e ha
        go_enter Try.func55, Try.ntmps55
        go_wp2
        go_ret
        exact ⟨rfl, H.out.set3 nl, Mod.setCell _ _ _ rfl⟩

set_option maxHeartbeats 8000000 in
theorem arm_at (b : Nat) (a : Option Addr) (n cap : Nat) (lv : Value) (armed down : Bool) (left i : Int) (w : World) (h : DCell w b (.slice a n cap) lv armed left down) (hn : 0 < n) :
    Calls Try.prog 23 #[.pointer (some ⟨b, 0, none⟩), .int .i64 i] w fun e w' =>
      (i < 0 ∧ e = .returned (.int .i64 2) ∧ w = w') ∨ (0 ≤ i ∧ down = true ∧ e = .returned (.int .i64 9) ∧ w = w') ∨
      (0 ≤ i ∧ down = false ∧ e = .returned (.int .i64 0) ∧ DCell w' b (.slice a n cap) lv true i down ∧ Mod (fun k => k = b) w w') := by
  obtain ⟨c0, c1, c2, c3, c4⟩ := h.cells
  have f2 := h.free 2
  have f3 := h.free 3
  have H := Lib.hid h
  have hm := made_of b a n cap
  have HM := Lib.hid hm
  clear h c1 hm
  by_cases hi : i < 0
  · refine Calls.mono ?_ (fun e w' h => Or.inl ⟨hi, h⟩)
    go_enter Try.func23, Try.ntmps23
    go_wp2_with fail
    refine (HM.out _ c0).mono ?_
    rintro e w' ⟨rfl, rfl⟩
    go_wp2
    go_ret
    exact ⟨rfl, rfl⟩
  · have hi' : 0 ≤ i := by omega
    cases down with
    | true =>
      refine Calls.mono ?_ (fun e w' h => Or.inr (Or.inl ⟨hi', rfl, h⟩))
      go_enter Try.func23, Try.ntmps23
      go_wp2_with fail
      refine (HM.out _ c0).mono ?_
      rintro e w' ⟨rfl, rfl⟩
      go_wp2
      go_ret
      exact ⟨rfl, rfl⟩
    | false =>
      refine Calls.mono ?_ (fun e w' h => Or.inr (Or.inr ⟨hi', rfl, h⟩))
      go_enter Try.func23, Try.ntmps23
      go_wp2_with fail
      refine (HM.out _ c0).mono ?_
      rintro e w' ⟨rfl, rfl⟩
      go_wp2
      go_ret
      refine ⟨rfl, (H.out.set2 true).set3 i, Mod.trans (F := fun k => k = b) (G := fun k => k = b) (Mod.setCell _ _ _ rfl) (Mod.setCell _ _ _ rfl) (fun _ h => Or.inl h)⟩
end Go.Proofs.Ytjnbdikhajnciaa.Drum
