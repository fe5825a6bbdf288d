/- The laws' few, begun. -/
import Derived.Test.YtjnbdikhajnciaaFh
namespace Go.Proofs.Ytjnbdikhajnciaa.Drum
open Go.RowKit Go.Proofs.Ytjnbdikhajnciaa.Ord Go.Proofs.YtjnbdikhajnciaaW.PrintWords Go.Proofs.Ytjnbdikhajnciaa.Base
set_option linter.unusedVariables false
set_option linter.unusedSimpArgs false

/-- The numbers of a slice that came in. -/
def IntsIn (w : World) (a : Option Addr) (n : Nat) (zs : List Int) : Prop :=
  zs.length = n ∧ (0 < n → ∃ ad : Addr, a = some ad ∧ ∀ j z, zs[j]? = some z → w.cell? (ad.add j) = some (.int .i64 z))
/-- A call that came in. -/
structure ActIn (B : Nat) (w : World) (a : ActV) : Prop where
  i : a.i ≤ 9223372036854775807
  s : a.s.size ≤ maxLen
  n : a.kn ≤ maxLen
  ints : IntsIn w a.ka a.kn a.zs
  old : 0 < a.kn → ∀ ad, a.ka = some ad → ad.block < B
/-- Calls that came in. -/
structure ActsIn (B : Nat) (w : World) (a : Option Addr) (n : Nat) (acts : List ActV) : Prop where
  len : acts.length = n
  max : n ≤ maxLen
  all : ∀ v ∈ acts, ActIn B w v
  cells : 0 < n → ∃ ad : Addr, a = some ad ∧ ad.block < B ∧ ∀ j v, acts[j]? = some v → w.cell? (ad.add (j * 4)) = some (.int .i64 v.kind) ∧ w.cell? (ad.add (j * 4 + 1)) = some (.int .i64 v.i) ∧ w.cell? (ad.add (j * 4 + 2)) = some (.string v.s) ∧ w.cell? (ad.add (j * 4 + 3)) = some (.slice v.ka v.kn v.kc)
def ActV.small (a : ActV) : Bool := decide (a.s.size ≤ 200) && decide (a.kn ≤ 200)
def fewB (acts : List ActV) : Bool := decide (acts.length ≤ 150) && acts.all ActV.small
theorem ActIn.ok {B : Nat} {w : World} {a : ActV} (h : ActIn B w a) (hs : a.small = true) : ActOk B w a := by
  unfold ActV.small at hs
  simp only [Bool.and_eq_true, decide_eq_true_eq] at hs
  exact ⟨h.i, by omega, ⟨h.ints.1, by omega, h.ints.2⟩, h.old⟩
theorem add_next (ad : Addr) (m j : Nat) : ad.add (m + (j + 1)) = ⟨(ad.add m).block, (ad.add m).off + (j + 1), none⟩ := by
  unfold Addr.add
  by_cases h : m = 0
  · subst h; simp
  · simp [h]; omega
theorem add_block (ad : Addr) (j : Nat) : (ad.add j).block = ad.block := by unfold Addr.add; split <;> rfl
set_option maxRecDepth 100000 in
set_option maxHeartbeats 8000000 in
theorem few_at (B : Nat) (a : Option Addr) (n cap : Nat) (acts : List ActV) (w : World) (h : ActsIn B w a n acts) :
    Calls Try.prog 19 #[.slice a n cap] w fun e w' => e = .returned (.bool (fewB acts)) ∧ w = w' := by
  have hmax := h.max
  unfold maxLen at hmax
  have H := Lib.hid h
  obtain ⟨t, ht⟩ : ∃ t, t = fewB acts := ⟨_, rfl⟩
  rw [← ht]
  have HT := Lib.hid ht
  clear h ht
  by_cases hn : 150 < n
  · have hn' : (n : Int) > 150 := by omega
    have hf : t = false := by rw [HT.out]; unfold fewB; rw [decide_eq_false (by have := H.out.len; omega)]; rfl
    subst hf
    go_enter Try.func19, Try.ntmps19
    go_wp2
    go_ret
    exact ⟨rfl, rfl⟩
  · have hn' : ¬ (n : Int) > 150 := by omega
    go_enter Try.func19, Try.ntmps19
    go_wp2_with fail
    go_loop [3] (fun i => ∃ k : Nat, k ≤ n ∧ i = .int .i64 (k : Int) ∧ Hid ((acts.take k).all ActV.small = true)) (fun i => n - (intOf i).toNat)
    case atStart => exact ⟨0, Nat.zero_le _, rfl, Lib.hid rfl⟩
    case round =>
      obtain ⟨k, hk, rfl, hall⟩ := hrel
      by_cases hlt : k < n
      · obtain ⟨ad, rfl, hb, hcs⟩ := H.out.cells (by omega)
        obtain ⟨v, hv⟩ : ∃ v, acts[k]? = some v := ⟨_, List.getElem?_eq_getElem (by have := H.out.len; omega)⟩
        obtain ⟨c0, c1, c2, c3⟩ := hcs k v hv
        rw [add_next] at c1 c2 c3
        have hvin := H.out.all v (List.mem_of_getElem? hv)
        have hsn : (acts.take (k + 1)).all ActV.small = ((acts.take k).all ActV.small && v.small) := by rw [List.take_add_one, hv]; simp
        have hs1 := hvin.s
        have hs2 := hvin.n
        unfold maxLen at hs1 hs2
        have HV := Lib.hid hv
        have HSN := Lib.hid hsn
        clear hcs hvin hsn hv
        by_cases g1 : 200 < v.s.size
        · have g1' : (v.s.size : Int) > 200 := by omega
          have hf : t = false := by
            rw [HT.out]; unfold fewB
            have hm : v ∈ acts := List.mem_of_getElem? HV.out
            have : acts.all ActV.small = false := by
              rw [List.all_eq_false]; exact ⟨v, hm, by unfold ActV.small; rw [decide_eq_false (by omega)]; simp⟩
            rw [this, Bool.and_false]
          subst hf
          go_wp2_with fail
          go_ret
          exact ⟨rfl, rfl⟩
        · have g1' : ¬ (v.s.size : Int) > 200 := by omega
          by_cases g2 : 200 < v.kn
          · have g2' : (v.kn : Int) > 200 := by omega
            have hf : t = false := by
              rw [HT.out]; unfold fewB
              have hm : v ∈ acts := List.mem_of_getElem? HV.out
              have : acts.all ActV.small = false := by
                rw [List.all_eq_false]; exact ⟨v, hm, by unfold ActV.small; rw [decide_eq_false (show ¬ v.kn ≤ 200 by omega)]; simp⟩
              rw [this, Bool.and_false]
            subst hf
            go_wp2_with fail
            go_ret
            exact ⟨rfl, rfl⟩
          · have g2' : ¬ (v.kn : Int) > 200 := by omega
            have hsm : (acts.take (k + 1)).all ActV.small = true := by
              rw [HSN.out, hall.out]; unfold ActV.small; rw [decide_eq_true (by omega), decide_eq_true (by omega)]; rfl
            have HSM := Lib.hid hsm
            clear hsm
            go_wp2_with fail
            go_round
            case rel => exact ⟨k + 1, by omega, by go_num, HSM⟩
            case measure => simp [intOf]; omega
      · have hf : t = true := by
          rw [HT.out]; unfold fewB
          have := hall.out
          rw [List.take_of_length_le (by have := H.out.len; omega)] at this
          rw [this, decide_eq_true (by have := H.out.len; omega)]; rfl
        subst hf
        go_wp2_with fail
        go_ret
        exact ⟨rfl, rfl⟩
end Go.Proofs.Ytjnbdikhajnciaa.Drum
