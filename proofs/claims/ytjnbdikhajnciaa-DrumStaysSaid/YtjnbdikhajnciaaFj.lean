/- The laws' begun. -/
import Derived.Test.YtjnbdikhajnciaaFi
namespace Go.Proofs.Ytjnbdikhajnciaa.Drum
open Go.RowKit Go.Proofs.Ytjnbdikhajnciaa.Ord Go.Proofs.YtjnbdikhajnciaaW.PrintWords Go.Proofs.Ytjnbdikhajnciaa.Base
set_option linter.unusedVariables false
set_option linter.unusedSimpArgs false

theorem burn_same (D : DS) : D.burn.2.sure = D.sure ∧ D.burn.2.loose = D.loose := ⟨rfl, rfl⟩
theorem write_len (D : DS) (i : Int) (s : List UInt8) : (D.write i s).2.sure.length = D.sure.length ∧ (D.write i s).2.loose.length ≤ D.loose.length + 1 := by
  unfold DS.write
  split
  · exact ⟨rfl, Nat.le_succ _⟩
  · split
    · exact ⟨rfl, by simp⟩
    · exact ⟨rfl, by rw [(burn_same D).2]; omega⟩
theorem step_len (D : DS) (a : ActV) : (D.step a).2.sure.length = D.sure.length ∧ (D.step a).2.loose.length ≤ D.loose.length + 1 := by
  unfold DS.step
  split
  · unfold DS.settle
    split
    · exact ⟨keepN_len _ _ _ _, by simp⟩
    · exact ⟨rfl, by rw [(burn_same D).2]; omega⟩
  · split
    · exact ⟨keepN_len _ _ _ _, by simp [DS.crash]⟩
    · split
      · unfold DS.arm
        split
        · exact ⟨rfl, by simp⟩
        · split
          · exact ⟨rfl, by simp⟩
          · exact ⟨rfl, by simp⟩
      · split
        · exact write_len _ _ _
        · exact write_len _ _ _
/-- Both drums behind k calls. -/
def Behind (B : Nat) (w : World) (l : List Thing) (b rb N k : Nat) (W : World) : Prop := ∃ D R, Two B w l b rb D D R R false false W ∧ Sim D R ∧ D.loose.length ≤ k ∧ D.sure.length = N
theorem Behind.step {B : Nat} {w : World} {l : List Thing} {b rb N k : Nat} {D : DS} {R : RS} {a : ActV} {W' : World} (hs : Sim D R) (hl : D.loose.length ≤ k) (hn : D.sure.length = N) (ha : ActOk B w a) (h : Stepped B w l b rb (D.step a).2 (R.step a).2 W') : Behind B w l b rb N (k + 1) W' :=
  ⟨_, _, h, (sim_step hs a ha.i).2, by have := (step_len D a).2; omega, by rw [(step_len D a).1]; exact hn⟩
/-- A drum behind calls. -/
def BegunAt (B : Nat) (w : World) (l : List Thing) (n : Nat) (e : Ending) (W' : World) : Prop := ∃ b D t, e = .returned (.pointer (some ⟨b, 0, none⟩)) ∧ IsDrum b D t ∧ D.sure.length = 6 ∧ D.loose.length ≤ n ∧ Sep B w W' (t :: l)
set_option maxRecDepth 100000 in
set_option maxHeartbeats 8000000 in
theorem begun_at (B : Nat) (w W : World) (l : List Thing) (a : Option Addr) (n cap : Nat) (acts : List ActV) (h : ActsIn B w a n acts) (hf : fewB acts = true) (hs : Sep B w W l) :
    Calls Try.prog 21 #[.slice a n cap] W (BegunAt B w l n) := by
  unfold fewB at hf
  simp only [Bool.and_eq_true, decide_eq_true_eq] at hf
  have hn150 : n ≤ 150 := by have := h.len; omega
  have H := Lib.hid h
  have HF := Lib.hid hf
  have HS := Lib.hid hs
  clear h hf hs
  go_enter Try.func21, Try.ntmps21
  go_wp2_with fail
  refine (new_sep HS.out 6 (by decide) (by decide)).mono ?_
  rintro e W1 ⟨v, rfl, b, t1, rfl, ht1, hS1⟩
  have HT1 := Lib.hid ht1
  have HS1 := Lib.hid hS1
  clear ht1 hS1
  go_wp2_with fail
  refine (rnew_sep HS1.out 6 (by decide) (by decide)).mono ?_
  rintro e W2 ⟨v, rfl, rb, t2, rfl, ht2, hS2⟩
  have HB : Hid (Behind B w l b rb 6 0 W2) := Lib.hid ⟨DS.zero 6, RS.zero 6, ⟨t1, t2, HT1.out, ht2, hS2.swap⟩, sim_zero 6, Nat.le_refl _, rfl⟩
  clear ht2 hS2
  go_wp2_with fail
  go_loopw [7] (fun i wr => ∃ k : Nat, k ≤ n ∧ i = .int .i64 (k : Int) ∧ Behind B w l b rb 6 k wr) (fun i _ => n - (intOf i).toNat)
  case atStart => exact ⟨0, Nat.zero_le _, rfl, HB.out⟩
  case round =>
    obtain ⟨k, hk, rfl, hbeh⟩ := hrel
    by_cases hlt : k < n
    · obtain ⟨ad, rfl, hb, hcs⟩ := H.out.cells (by omega)
      obtain ⟨v, hv⟩ : ∃ v, acts[k]? = some v := ⟨_, List.getElem?_eq_getElem (by have := H.out.len; omega)⟩
      obtain ⟨D, R, htwo, hsim, hll, hsl⟩ := hbeh
      have hbel : Below B w wr := by obtain ⟨_, _, _, _, hx⟩ := htwo; exact hx.below
      obtain ⟨c0, c1, c2, c3⟩ := hcs k v hv
      have hm : v ∈ acts := List.mem_of_getElem? hv
      have hok : ActOk B w v := (H.out.all v hm).ok (List.all_eq_true.1 HF.out.2 v hm)
      have hst := step_at B w wr l b rb D R v htwo hsim (by omega) hok
      have far : ∀ j u, w.cell? (ad.add j) = some u → wr.cell? (ad.add j) = some u := fun j u hu => (hbel.cell (p := ad.add j) (by rw [add_block]; exact hb)).trans hu
      have d0 := far _ _ c0
      have d1 := far _ _ c1
      have d2 := far _ _ c2
      have d3 := far _ _ c3
      rw [add_next] at d1 d2 d3
      have HST := Lib.hid hst
      have HSIM := Lib.hid hsim
      have HLL := Lib.hid hll
      have HSL := Lib.hid hsl
      have HOK := Lib.hid hok
      clear far c0 c1 c2 c3 hm hok hst htwo hsim hll hsl hbel hcs hv
      go_wp2_with fail
      refine HST.out.mono ?_
      rintro e W' ⟨rfl, hstp⟩
      have HBE := Lib.hid (Behind.step HSIM.out HLL.out HSL.out HOK.out hstp)
      clear hstp
      go_wp2_with fail
      go_roundw
      case rel => exact ⟨k + 1, by omega, by go_num, HBE.out⟩
      case measure => simp [intOf]; omega
    · have hkn : k = n := by omega
      have hend : BegunAt B w l n (.returned (.pointer (some ⟨b, 0, none⟩))) wr := by
        obtain ⟨D, R, ⟨td, tr, h1, h2, h3⟩, hsim, hll, hsl⟩ := hbeh
        exact ⟨b, D, td, rfl, h1, hsl, by omega, h3.swap.tail⟩
      have HE := Lib.hid hend
      clear hend hbeh hkn
      go_wp2_with fail
      go_ret
      exact HE.out
end Go.Proofs.Ytjnbdikhajnciaa.Drum
