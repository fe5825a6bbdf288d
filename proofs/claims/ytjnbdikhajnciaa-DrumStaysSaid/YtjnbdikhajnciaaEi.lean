/- The drum: Sure; the library's iterator that goes backward over loose writes. -/
import Derived.Test.YtjnbdikhajnciaaEh
import Derived.RangeFuncBox
import Derived.RangeFuncNested
import Derived.RangeFuncBound
import Derived.RangeFuncCalls
import Derived.RangeFuncLeaves
import Derived.Shelf.Abstract
import Derived.OwnWalkIn
import Derived.TacticsInMore
import Derived.LoopNIn
import Derived.LoopIn
namespace Go.Proofs.Ytjnbdikhajnciaa.Drum
open Go.RowKit Go.Proofs.Ytjnbdikhajnciaa.Ord Go.Proofs.YtjnbdikhajnciaaW.PrintWords Go.Proofs.Ytjnbdikhajnciaa.Base
open Go.Shelf
set_option linter.unusedVariables false
attribute [local go_sem] Oper.semAt_some

def DS.sureText (D : DS) (i : Int) : List UInt8 := if 0 ≤ i ∧ i < (D.sure.length : Int) then D.sure.getD i.toNat [] else []
set_option maxRecDepth 100000 in
set_option maxHeartbeats 4000000 in
theorem sure_at (b sb cap : Nat) (lv : Value) (D : DS) (i : Int) (w : World) (h : DrumAt w b sb cap lv D) :
    Calls Try.prog 34 #[.pointer (some ⟨b, 0, none⟩), .int .i64 i] w fun e w' => e = .returned (.string ⟨(D.sureText i).toArray⟩) ∧ NewMem w w' := by
  have c0 := h.cell.cells.1
  have ch := has_of b _ _ _ i w c0
  unfold DS.sureText
  by_cases hr : 0 ≤ i ∧ i < (D.sure.length : Int)
  · rw [decide_eq_true hr] at ch
    rw [if_pos hr]
    obtain ⟨j, rfl⟩ : ∃ j : Nat, i = (j : Int) := ⟨i.toNat, by omega⟩
    have hj : j < D.sure.length := by omega
    have hs : D.sure[j]? = some (D.sure.getD j []) := by simp [List.getElem?_eq_getElem hj]
    rw [Int.toNat_natCast]
    obtain ⟨s, hsd⟩ : ∃ s, s = D.sure.getD j [] := ⟨_, rfl⟩
    rw [← hsd] at hs ⊢
    have hw := h.wsure s (List.mem_of_getElem? hs)
    have hra := h.sure_at hs
    have hsz : (Try.prog.info? 84).map (·.size) = some (secCells s).length := by rw [secCells_len, hw]; exact info_secb
    have ct := text_any s hw w
    have CH := Lib.hid ch
    have CT := Lib.hid ct
    have HRA := Lib.hid hra
    have HSZ := Lib.hid hsz
    clear ch ct hra hs hsd h hsz hw hr
    go_enter Try.func34, Try.ntmps34
    go_wp2_with fail
    refine CH.out.mono ?_
    rintro e w' ⟨rfl, rfl⟩
    go_wp2_with (refine wpList_load_mid rfl 84 _ rfl sb (j * 64) rfl (secCells s) _ HRA.out Try.underlying84 rfl HSZ.out ?_)
    refine CT.out.mono ?_
    rintro e w' ⟨rfl, hn⟩
    go_wp2
    go_ret
    exact ⟨rfl, hn⟩
  · rw [decide_eq_false hr] at ch
    rw [if_neg hr]
    have CH := Lib.hid ch
    clear ch h c0 hr
    go_enter Try.func34, Try.ntmps34
    go_wp2_with fail
    refine CH.out.mono ?_
    rintro e w' ⟨rfl, rfl⟩
    go_wp2
    go_ret
    exact ⟨rfl, NewMem.refl _⟩

section
variable {F : Fence} {n : Nat} {P : Program} {ops : Array Oper} {Q : Exit → Act → World → Prop} {a : Act} {w w' : World} {rest : List Oper} {o : Oper} {v : Value}
theorem wpListIn_value (hg : o.guard = none) (hd : ∀ c, o.op ≠ .defer c) (ha : o.about P w a.eval = none) (hr : (execOp a.eval o).run P w = .ok (.value v) w') (h : wpListIn F n P ops Q rest (a.put o.dst v) w') : wpListIn F n P ops Q (o :: rest) a w := by
  refine wpListIn_plain hg fun K hK' => ?_
  unfold Oper.wpIn
  refine ⟨(fun f hf => by rw [ha] at hf; cases hf), ?_⟩
  rw [Oper.semAt_plain F _ _ hd, hr]
  simp [go_sem]
  exact hK' _ _ h
theorem wpListIn_skipped (hg : o.guard = none) (hd : ∀ c, o.op ≠ .defer c) (ha : o.about P w a.eval = none) (hr : (execOp a.eval o).run P w = .ok .skip w') (h : wpListIn F n P ops Q rest (a.put o.dst undef) w') : wpListIn F n P ops Q (o :: rest) a w := by
  refine wpListIn_plain hg fun K hK' => ?_
  unfold Oper.wpIn
  refine ⟨(fun f hf => by rw [ha] at hf; cases hf), ?_⟩
  rw [Oper.semAt_plain F _ _ hd, hr]
  simp [go_sem]
  exact hK' _ _ h
end

/-- A loose write of 64 bytes. -/
abbrev LE := { q : Nat × List UInt8 // q.2.length = 64 }
def LE.zero : LE := ⟨(0, List.replicate 64 0), by simp⟩
/-- What has come when k rounds are over: from the last one on. -/
def comes (les : List LE) (k : Nat) : List (Nat × LE) := (List.range k).map fun j => (les.length - 1 - j, les.getD (les.length - 1 - j) LE.zero)
theorem comes_succ (les : List LE) (k : Nat) : comes les (k + 1) = comes les k ++ [(les.length - 1 - k, les.getD (les.length - 1 - k) LE.zero)] := by simp [comes, List.range_succ]
theorem comes_len (les : List LE) (k : Nat) : (comes les k).length = k := by simp [comes]
def encLE (x : Nat × LE) : Array Value := #[.int .i64 (x.1 : Int), .agg (looseCell x.2.1).toArray]
/-- A counter that ends at -1. -/
def down : Nat → Int
  | 0 => -1
  | j + 1 => (j : Int)

set_option maxRecDepth 100000 in
set_option maxHeartbeats 4000000 in
theorem back1_in (F : Fence) (n : Nat) (hf : F.fn 75) (hro : F.round = none) (hn : 1 ≤ n) (l Bs n₀ g cap : Nat) (les : List LE) (hreach : les.length ≤ 1000000) (hb : g < n₀) (hBn : Bs < n₀) (J Jx : List (Nat × LE) → World → Prop)
    (hY : ∀ pre x W, J pre W → pre.length < les.length → YieldAt F (n - 1) Try.prog l (encLE x) W fun e W' =>
      (e = .returned (.bool true) ∧ J (pre ++ [x]) W' ∧ Below n₀ W W') ∨ (e = .returned (.bool false) ∧ Jx (pre ++ [x]) W'))
    (W : World) (hBs : W.cell? ⟨Bs, 0, none⟩ = some (.slice (some ⟨g, 0, none⟩) les.length cap)) (hc : ∀ j x, les[j]? = some x → W.rangeAt g (j * 65) (looseCell x.1)) (h0 : J [] W) :
    CallsIn F n Try.prog 75 #[.func (.yield l) #[] #[], .pointer (some ⟨Bs, 0, none⟩)] W fun e W' => (∃ v, e = .returned v) ∧
      ((∃ ys, ys = comes les les.length ∧ J ys W') ∨ (∃ pre, (∃ k, k ≤ les.length ∧ pre = comes les k) ∧ Jx pre W')) := by
  have HC := Lib.hid hc
  have HBS := Lib.hid hBs
  obtain ⟨N, hN⟩ : ∃ N, N = les.length := ⟨_, rfl⟩
  have HN := Lib.hid hN
  have HY := Lib.hid hY
  rw [← hN] at hBs hreach
  have hs : (down N) = (N : Int) - 1 := by cases N with
    | zero => rfl
    | succ N => simp only [down]; omega
  clear hc hY hN
  refine callsIn_of_wp Try.func75 rfl hf ?_ hro
  simp only [Try.ntmps75, List.size_toArray, List.length_cons, List.length_nil, Nat.reduceAdd, Nat.reduceSub, Array.replicate_succ, Array.replicate_zero, List.push_toArray, List.append_toArray, List.nil_append, List.cons_append]
  gi_wp2
  rw [← hs]
  have HS := Lib.hid hs
  clear hs
  gi_loopw [3] (fun i wr => ∃ m k : Nat, m + k = N ∧ i = .int .i64 (down m) ∧ J (comes les k) wr ∧ Below n₀ W wr)
    (fun i _ => (intOf i + 1).toNat)
  case atStart => exact ⟨N, 0, by omega, rfl, h0, Below.refl _ _⟩
  case round =>
    obtain ⟨m, k, hmk, rfl, hJs, hnx⟩ := hrel
    have hbs : wr.cell? ⟨Bs, 0, none⟩ = some (.slice (some ⟨g, 0, none⟩) N cap) := (hnx.cell (p := ⟨Bs, 0, none⟩) hBn).trans hBs
    cases m with
    | zero =>
      have hk : k = les.length := by have := HN.out; omega
      rw [show down 0 = -1 from rfl]
      gi_wp2
      go_end0
      exact ⟨⟨_, rfl⟩, .inl ⟨_, by rw [hk], hJs⟩⟩
    | succ j =>
      have hkl : j < les.length := by have := HN.out; omega
      have hx : les[j]? = some (les.getD j LE.zero) := by simp [List.getElem?_eq_getElem hkl]
      have hje : les.length - 1 - k = j := by have := HN.out; omega
      obtain ⟨x, hxd⟩ : ∃ x, x = les.getD j LE.zero := ⟨_, rfl⟩
      have hsucc : comes les (k + 1) = comes les k ++ [(j, x)] := by rw [comes_succ, hje, ← hxd]
      rw [← hxd] at hx
      have hld : wr.rangeAt g (j * 65) (looseCell x.1) := fun i v hv => (hnx.cell (p := ⟨g, j * 65 + i, none⟩) hb).trans (HC.out j x hx i v hv)
      have hqz : (Try.prog.info? 86).map (·.size) = some (looseCell x.1).length := by rw [looseCell_len _ x.2]; exact info_looseb
      obtain ⟨fn, tmps, assign, body, hy, hR⟩ := HY.out _ (j, x) wr hJs (by rw [comes_len]; have := HN.out; omega)
      unfold encLE at hy
      dsimp only at hy
      have HLD := Lib.hid hld
      have HQZ := Lib.hid hqz
      have HSC := Lib.hid hsucc
      have HJE := Lib.hid hje
      have hnn : j < N := by omega
      clear hld hqz hsucc hx hxd hje hkl
      rw [show down (j + 1) = (j : Int) from rfl]
      gi_wp2_with (refine wpListIn_value rfl (fun _ h => by cases h) rfl (exec_load_mid 86 _ rfl g (j * 65) rfl (looseCell x.1) _ HLD.out Try.underlying86 rfl HQZ.out) ?_)
      refine hR.mono ?_
      rintro e W3 (⟨rfl, hJ3, hk3⟩ | ⟨rfl, hJx3⟩)
      · gi_wp2
        have hdj : (j : Int) - 1 = down j := by
          cases j with
          | zero => rfl
          | succ j => simp only [down]; omega
        go_roundw
        case rel => exact ⟨j, k + 1, by omega, by rw [hdj], by rw [HSC.out]; exact hJ3, hnx.trans hk3⟩
        case measure => simp only [intOf]; omega
      · gi_wp2
        refine bodyPost_ret (results_none rfl _ _ _) rfl ?_
        exact ⟨⟨_, rfl⟩, .inr ⟨_, ⟨k + 1, by have := HN.out; omega, HSC.out.symm⟩, hJx3⟩⟩
set_option maxHeartbeats 4000000 in
theorem back1_nil_in (F : Fence) (n : Nat) (hf : F.fn 75) (hro : F.round = none) (l Bs : Nat) (J : List (Nat × LE) → World → Prop) (W : World) (hBs : W.cell? ⟨Bs, 0, none⟩ = some (.slice none 0 0)) (h0 : J [] W) :
    CallsIn F n Try.prog 75 #[.func (.yield l) #[] #[], .pointer (some ⟨Bs, 0, none⟩)] W fun e W' => (∃ v, e = .returned v) ∧ J [] W' := by
  refine callsIn_of_wp Try.func75 rfl hf ?_ hro
  simp only [Try.ntmps75, List.size_toArray, List.length_cons, List.length_nil, Nat.reduceAdd, Nat.reduceSub, Array.replicate_succ, Array.replicate_zero, List.push_toArray, List.append_toArray, List.nil_append, List.cons_append]
  gi_wp2
  gi_loopw [3] (fun i wr => i = .int .i64 (-1) ∧ J [] wr) (fun _ _ => 0)
  case atStart => exact ⟨rfl, h0⟩
  case round =>
    obtain ⟨rfl, hJs⟩ := hrel
    gi_wp2
    go_end0
    exact ⟨⟨_, rfl⟩, hJs⟩
set_option maxHeartbeats 4000000 in
theorem back_in (F : Fence) (n : Nat) (hf : F.fn 56) (hro : F.round = none) (a : Option Addr) (len cap : Nat) (w : World) :
    CallsIn F n Try.prog 56 #[.slice a len cap] w fun e w' => e = .returned (.func (.func 75) #[] #[.pointer (some ⟨w.heap.size, 0, none⟩)]) ∧ w' = w.alloc (.cells #[.slice a len cap] 71) := by
  refine callsIn_of_wp Try.func56 rfl hf ?_ hro
  simp only [Try.ntmps56, List.size_toArray, List.length_cons, List.length_nil, Nat.reduceAdd, Nat.reduceSub, Array.replicate_succ, Array.replicate_zero, List.push_toArray, List.append_toArray, List.nil_append, List.cons_append]
  gi_wp2
  go_ret
  exact ⟨rfl, rfl⟩
/-- A slice of loose writes in a block below n₀. -/
def LooseIn (n₀ : Nat) (W : World) (lv : Value) (les : List LE) : Prop :=
  (lv = .slice none 0 0 ∧ les = []) ∨ ∃ g cap, lv = .slice (some ⟨g, 0, none⟩) les.length cap ∧ g < n₀ ∧ ∀ j x, les[j]? = some x → W.rangeAt g (j * 65) (looseCell x.1)
theorem LooseIn.below {n₀ : Nat} {A B : World} (h : Below n₀ A B) {lv : Value} {les : List LE} : LooseIn n₀ A lv les → LooseIn n₀ B lv les
  | .inl e => .inl e
  | .inr ⟨g, cap, e, hb, hc⟩ => .inr ⟨g, cap, e, hb, fun j x hx i v hv => (h.cell (p := ⟨g, j * 65 + i, none⟩) hb).trans (hc j x hx i v hv)⟩
theorem back_stops (F : Fence) (n : Nat) (hf : F.fn 75) (hro : F.round = none) (hn : 1 ≤ n) (Bs n₀ : Nat) (lv : Value) (les : List LE) (hreach : les.length ≤ 1000000) (w : World) (hBs : Bs < n₀) (hn₀ : n₀ ≤ w.heap.size)
    (hc : w.cell? ⟨Bs, 0, none⟩ = some lv) (hI : LooseIn n₀ w lv les) :
    SeqStopsK F n Try.prog 75 #[.pointer (some ⟨Bs, 0, none⟩)] encLE (Below n₀) (fun ys => ys = comes les les.length)
      (fun pre => ∃ k, k ≤ les.length ∧ pre = comes les k) les.length w := fun l J Jx W hW _ _ hY h0 => by
  have hc' := (hW.cell (p := ⟨Bs, 0, none⟩) (Nat.lt_of_lt_of_le hBs hn₀)).trans hc
  rcases hI.below (hW.mono hn₀) with ⟨rfl, rfl⟩ | ⟨g, cap, rfl, hb, hcs⟩
  · exact (back1_nil_in F n hf hro l Bs J W hc' h0).mono fun e W' ⟨he, hj⟩ => ⟨he, .inl ⟨_, rfl, hj⟩⟩
  · exact back1_in F n hf hro hn l Bs n₀ g cap les hreach hb hBs J Jx hY W hc' hcs h0
end Go.Proofs.Ytjnbdikhajnciaa.Drum
