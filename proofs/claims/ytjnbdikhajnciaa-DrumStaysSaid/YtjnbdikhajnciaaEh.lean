/- slices.Contains of numbers; Settle, Crash. -/
import Derived.Test.YtjnbdikhajnciaaEg
namespace Go.Proofs.Ytjnbdikhajnciaa.Drum
open Go.RowKit Go.Proofs.Ytjnbdikhajnciaa.Ord Go.Proofs.YtjnbdikhajnciaaW.PrintWords Go.Proofs.Ytjnbdikhajnciaa.Base
set_option linter.unusedVariables false

/-- The numbers of a slice. -/
def IntsAt (w : World) (a : Option Addr) (n : Nat) (zs : List Int) : Prop :=
  zs.length = n ∧ n ≤ 1000000 ∧ (0 < n → ∃ ad : Addr, a = some ad ∧ ∀ j z, zs[j]? = some z → w.cell? (ad.add j) = some (.int .i64 z))
theorem ret_int {k : IntKind} {a b : Int} (h : a = b) : Ending.returned (.int k a) = .returned (.int k b) := by rw [h]
def firstOf (zs : List Int) (v : Int) (k : Nat) : Prop := ∀ j z, j < k → zs[j]? = some z → z ≠ v
def IndexEnd (zs : List Int) (v : Int) (w : World) (e : Ending) (w' : World) : Prop := ∃ r : Int, e = .returned (.int .i64 r) ∧ w = w' ∧ decide (0 ≤ r) = zs.contains v
set_option maxHeartbeats 4000000 in
theorem index_at (a : Option Addr) (n cap : Nat) (zs : List Int) (v : Int) (w : World) (h : IntsAt w a n zs) :
    Calls Try.prog 74 #[.slice a n cap, .int .i64 v] w (IndexEnd zs v w) := by
  obtain ⟨hl, hm, hc⟩ := h
  have HL := Lib.hid hl
  have HC := Lib.hid hc
  clear hl hc
  go_enter Try.func74, Try.ntmps74
  go_wp2_with fail
  go_loop [8] (fun i => ∃ k : Nat, k ≤ n ∧ i = .int .i64 (k : Int) ∧ Hid (firstOf zs v k)) (fun i => n - (intOf i).toNat)
  case atStart => exact ⟨0, Nat.zero_le _, rfl, Lib.hid (fun j z hj => absurd hj (by omega))⟩
  case round =>
    obtain ⟨k, hk, rfl, hf⟩ := hrel
    by_cases hlt : k < n
    · obtain ⟨ad, rfl, hcells⟩ := HC.out (by omega)
      obtain ⟨z, hz⟩ : ∃ z, zs[k]? = some z := ⟨_, List.getElem?_eq_getElem (by have := HL.out; omega)⟩
      have hcell := hcells k z hz
      have HZ := Lib.hid hz
      clear hcells hz
      by_cases hv : v = z
      · subst hv
        go_wp2_with fail
        go_ret
        refine ⟨(k : Int), rfl, rfl, ?_⟩
        rw [decide_eq_true (by omega)]
        exact (List.contains_iff_mem.2 (List.mem_of_getElem? HZ.out)).symm
      · go_wp2_with fail
        go_round
        case rel =>
          refine ⟨k + 1, by omega, by go_num, Lib.hid (fun j y hj hy => ?_)⟩
          by_cases e : j = k
          · subst e
            rw [HZ.out] at hy; injection hy with hy; rw [← hy]; exact fun e => hv e.symm
          · exact hf.out j y (by omega) hy
        case measure => simp [intOf]; omega
    · go_wp2_with fail
      go_ret
      refine ⟨-1, rfl, rfl, ?_⟩
      rw [decide_eq_false (by omega)]
      symm
      rw [Bool.eq_false_iff]
      intro hc
      obtain ⟨j, hj⟩ := List.getElem?_of_mem (List.contains_iff_mem.1 hc)
      exact hf.out j v (by have := (List.getElem?_eq_some_iff.1 hj).1; have := HL.out; omega) hj rfl
set_option maxHeartbeats 4000000 in
theorem contains_at (a : Option Addr) (n cap : Nat) (zs : List Int) (v : Int) (w : World) (h : IntsAt w a n zs) :
    Calls Try.prog 53 #[.slice a n cap, .int .i64 v] w fun e w' => e = .returned (.bool (zs.contains v)) ∧ w = w' := by
  have hc := index_at a n cap zs v w h
  have HC := Lib.hid hc
  clear h hc
  obtain ⟨t, ht⟩ : ∃ t, t = zs.contains v := ⟨_, rfl⟩
  rw [← ht]
  go_enter Try.func53, Try.ntmps53
  go_wp2_with fail
  refine HC.out.mono ?_
  rintro e w' ⟨r, rfl, rfl, hr⟩
  rw [← ht] at hr
  clear ht
  subst hr
  go_wp2_with fail
  go_ret
  exact ⟨rfl, rfl⟩
/-- Crash's look: was this loose write kept? -/
theorem looks_at (bk : Nat) (a : Option Addr) (n cap : Nat) (zs : List Int) (k : Nat) (w : World) (hb : w.cell? ⟨bk, 0, none⟩ = some (.slice a n cap)) (h : IntsAt w a n zs) :
    Calls Try.prog 52 (#[.int .i64 (k : Int)] ++ #[.pointer (some ⟨bk, 0, none⟩)]) w fun e w' => e = .returned (.bool (zs.contains (k : Int))) ∧ w = w' := by
  have hc := contains_at a n cap zs (k : Int) w h
  generalize zs.contains (k : Int) = t at *
  have HC := Lib.hid hc
  clear hc h
  show Calls Try.prog _ #[.int .i64 (k : Int), .pointer (some ⟨bk, 0, none⟩)] _ _
  go_enter Try.func52, Try.ntmps52
  go_wp2_with fail
  refine HC.out.mono ?_
  rintro e w' ⟨rfl, rfl⟩
  go_wp2_with fail
  go_ret
  exact ⟨rfl, rfl⟩
theorem always_at (k : Nat) (w : World) : Calls Try.prog 58 (#[.int .i64 (k : Int)] ++ #[]) w fun e w' => e = .returned (.bool true) ∧ w = w' := by
  show Calls Try.prog _ #[.int .i64 (k : Int)] _ _
  go_enter Try.func58, Try.ntmps58
  go_wp2_with fail
  go_ret
  exact ⟨rfl, rfl⟩
theorem enters_look : ∀ args W, (callFunc 52 args).run Try.prog W = .ok (.enter 52 args) W := by
  intro args W
  have hf := Try.func52
  simp [callFunc, hf, mark, Try.f52]
theorem enters_always : ∀ args W, (callFunc 58 args).run Try.prog W = .ok (.enter 58 args) W := by
  intro args W
  have hf := Try.func58
  simp [callFunc, hf, mark, Try.f58]

def DS.settle (D : DS) : Int × DS := if D.burn.1 = 0 then (0, { D.burn.2 with sure := keepN (fun _ => true) D.loose D.sure D.loose.length, loose := [] }) else D.burn
def DS.crash (D : DS) (zs : List Int) : DS := { sure := keepN (fun k => zs.contains (k : Int)) D.loose D.sure D.loose.length, loose := [], armed := false, left := 0, down := false }
set_option maxHeartbeats 4000000 in
theorem settle_at (b sb cap : Nat) (lv : Value) (D : DS) (w : World) (h : DrumAt w b sb cap lv D) (hn : D.loose.length ≤ 1000000) :
    Calls Try.prog 29 #[.pointer (some ⟨b, 0, none⟩)] w fun e w' => Did w b sb cap lv D.settle e w' := by
  have c0 := h.cell.cells.1
  have cm : Calls Try.prog 50 #[.pointer (some ⟨b, 0, none⟩)] w fun e w' => e = .returned (.bool true) ∧ w = w' := by
    have := made_of b _ _ _ w c0
    rwa [decide_eq_true h.pos] at this
  have CM := Lib.hid cm
  have CB := Lib.hid (burn_at b _ _ _ _ _ w h.cell)
  have H := Lib.hid h
  clear h cm c0
  unfold DS.settle
  by_cases hb0 : D.burn.1 = 0
  · rw [if_pos hb0]
    have hb0' : (burns D.armed D.left D.down).1 = 0 := hb0
    have HB0 := Lib.hid hb0'
    clear hb0 hb0'
    go_enter Try.func29, Try.ntmps29
    go_wp2_with fail
    refine CM.out.mono ?_
    rintro e w' ⟨rfl, rfl⟩
    go_wp2_with fail
    refine CB.out.mono ?_
    rintro e w1 ⟨rfl, hc1, hm1⟩
    rw [HB0.out]
    have hd1 := H.out.burnt hc1 hm1
    have ck := keep_at b sb cap lv D.burn.2 58 #[] (fun _ => true) w1 hd1 hn enters_always (fun W k _ _ => always_at k W)
    have CK := Lib.hid ck
    have HM1 := Lib.hid hm1
    clear hd1 ck hc1 hm1
    go_wp2_with fail
    refine CK.out.mono ?_
    rintro e w2 ⟨rfl, hd2, hm2⟩
    have HD := Lib.hid (show Did w b sb cap lv (0, { D.burn.2 with sure := keepN (fun _ => true) D.loose D.sure D.loose.length, loose := [] }) (.returned (.int .i64 0)) w2 from
      ⟨.slice none 0 0, rfl, hd2, fun _ h => by simp [Value.ownBlock] at h, (HM1.out.mono (fun _ e => Or.inl e)).trans hm2 (fun _ e => .inl (by rcases e with e | e; exact .inl e; exact .inr (.inl e)))⟩)
    clear hd2 hm2
    go_wp2_with fail
    go_ret
    exact HD.out
  · rw [if_neg hb0]
    have hb0' : (burns D.armed D.left D.down).1 ≠ 0 := hb0
    have hbd : ((burns D.armed D.left D.down).1 == 0) = false := by simpa using hb0'
    go_enter Try.func29, Try.ntmps29
    go_wp2_with fail
    refine CM.out.mono ?_
    rintro e w' ⟨rfl, rfl⟩
    go_wp2_with fail
    refine CB.out.mono ?_
    rintro e w1 ⟨rfl, hc1, hm1⟩
    have HD := Lib.hid (show Did w b sb cap lv D.burn (.returned (.int .i64 (burns D.armed D.left D.down).1)) w1 from ⟨lv, rfl, H.out.burnt hc1 hm1, fun _ h => .inl h, hm1.mono (fun _ e => .inl e)⟩)
    clear hc1 hm1
    go_wp2
    go_ret
    exact HD.out
theorem IntsAt.kept {F : Nat → Prop} {w w' : World} {a : Option Addr} {n : Nat} {zs : List Int} (h : IntsAt w a n zs) (hm : Mod F w w') (hF : 0 < n → ∀ ad, a = some ad → ¬ F ad.block) : IntsAt w' a n zs := by
  obtain ⟨h1, h2, h3⟩ := h
  refine ⟨h1, h2, fun h0 => ?_⟩
  obtain ⟨ad, e, hc⟩ := h3 h0
  refine ⟨ad, e, fun j z hz => ?_⟩
  have hb : (ad.add j).block = ad.block := by unfold Addr.add; split <;> rfl
  have := hc j z hz
  rw [World.cell?_of_block (hm.block (ad.add j).block (World.block_lt_of_cell? w _ this) (by rw [hb]; exact hF h0 ad e))]
  exact this
set_option maxHeartbeats 4000000 in
theorem crash_at (b sb cap : Nat) (lv : Value) (D : DS) (a : Option Addr) (n kc : Nat) (zs : List Int) (w : World) (h : DrumAt w b sb cap lv D) (hn : D.loose.length ≤ 1000000) (hz : IntsAt w a n zs) (ha : 0 < n → ∀ ad, a = some ad → ad.block ≠ sb) :
    Calls Try.prog 22 #[.pointer (some ⟨b, 0, none⟩), .slice a n kc] w fun e w' => Did w b sb cap lv (0, D.crash zs) e w' := by
  have hmf : ∀ (fn : Fn) (first cap : Array Value) (w : World), (Instr.makeFunc fn first cap).run Try.prog w = .ok (.func fn first cap) w := fun _ _ _ _ => rfl
  obtain ⟨bk, hbk⟩ : ∃ bk, bk = w.heap.size := ⟨_, rfl⟩
  obtain ⟨w1, hw1⟩ : ∃ w1, w1 = w.alloc (.cells #[.slice a n kc] 53) := ⟨_, rfl⟩
  have hm1 : Mod (fun _ => False) w w1 := by rw [hw1]; exact Mod.of_below (NewMem.alloc _ _)
  have h1 := h.kept hm1 (fun _ _ => id)
  have hz1 := hz.kept hm1 (fun _ _ _ => id)
  have hc1 : w1.heap[bk]? = some (.cells #[.slice a n kc] 53 (0, 0)) := by rw [hw1, hbk]; exact heap_alloc_last _ _
  have hbs : bk ≠ sb := by have := (h.sure.lt sb rfl).2; omega
  have cm : Calls Try.prog 50 #[.pointer (some ⟨b, 0, none⟩)] w1 fun e w' => e = .returned (.bool true) ∧ w1 = w' := by
    have := made_of b _ _ _ w1 h1.cell.cells.1
    rwa [decide_eq_true h.pos] at this
  have ck := keep_at b sb cap lv D 52 #[.pointer (some ⟨bk, 0, none⟩)] (fun k => zs.contains (k : Int)) w1 h1 hn enters_look (fun W k _ hm => looks_at bk a n kc zs k W (by
    have := (hm.block bk (Array.getElem?_eq_some_iff.1 hc1).1 hbs).trans hc1
    simp [World.cell?, this]) (hz1.kept hm ha))
  have HM1 := Lib.hid hm1
  have CM := Lib.hid cm
  have CK := Lib.hid ck
  have HW1 := Lib.hid hw1
  have HBK := Lib.hid hbk
  clear hm1 h1 hz1 hc1 hbs cm ck hw1 hbk h hz ha
  go_enter Try.func22, Try.ntmps22
  go_wp2_with fail
  rw [← HW1.out, ← HBK.out]
  refine CM.out.mono ?_
  rintro e w' ⟨rfl, rfl⟩
  go_wp2_with fail
  refine CK.out.mono ?_
  rintro e w2 ⟨rfl, hd2, hm2⟩
  have hd3 := hd2.cell
  have f2 := hd3.free 2
  have f3 := hd3.free 3
  have f4 := hd3.free 4
  obtain ⟨_, _, c2, c3, c4⟩ := hd3.cells
  have HD2 := Lib.hid hd2
  have HM2 := Lib.hid hm2
  clear hd2 hm2 hd3
  go_wp2_with fail
  go_ret
  have hd := HD2.out
  have m2 : Mod (fun i => i = b) w2 (((w2.setCell ⟨b, 2, none⟩ (.bool false)).setCell ⟨b, 3, none⟩ (.int .i64 0)).setCell ⟨b, 4, none⟩ (.bool false)) :=
    Mod.trans (F := fun i => i = b) (G := fun i => i = b) (Mod.trans (F := fun i => i = b) (G := fun i => i = b) (Mod.setCell _ _ _ rfl) (Mod.setCell _ _ _ rfl) (fun _ e => .inl e)) (Mod.setCell _ _ _ rfl) (fun _ e => .inl e)
  refine ⟨.slice none 0 0, rfl, ⟨((hd.cell.set2 false).set3 0).set4 false, ownsRow_mod hd.sure m2 (fun k hk e => hd.ne (by subst e; simpa [Value.ownBlock] using hk.symm)), World.ownsRow_nil _ _ _ _, hd.ne, hd.nel, hd.nes, hd.pos, hd.few, hd.wsure, hd.wloose⟩, fun _ h => by simp [Value.ownBlock] at h, ?_⟩
  have h1 : Mod (foot b sb lv) w w1 := HM1.out.mono (fun _ e => e.elim)
  have h2 : Mod (foot b sb lv) w w2 := h1.trans HM2.out (fun _ e => .inl (by rcases e with e | e; exact .inl e; exact .inr (.inl e)))
  exact h2.trans m2 (fun _ e => .inl (.inl e))
end Go.Proofs.Ytjnbdikhajnciaa.Drum
