/- DrumFuse walked. -/
import Derived.Test.YtjnbdikhajnciaaFj
import Derived.Test.YtjnbdikhajnciaaEn
namespace Go.Proofs.Ytjnbdikhajnciaa.Drum
open Go.RowKit Go.Proofs.Ytjnbdikhajnciaa.Ord Go.Proofs.YtjnbdikhajnciaaW.PrintWords Go.Proofs.Ytjnbdikhajnciaa.Base
set_option linter.unusedVariables false
set_option linter.unusedSimpArgs false

theorem IntsAt.none (W : World) : IntsAt W .none 0 [] := ⟨rfl, by decide, fun h => absurd h (by decide)⟩
/-- A drum behind i writes, n of which the fuse lets by. -/
structure Fuse (D : DS) (n i : Nat) : Prop where
  sure : D.sure.length = 6
  armed : D.armed = true
  left : D.left = ((n - i : Nat) : Int)
  down : D.down = decide (n < i)
  loose : D.loose.length = min i n
theorem fuse_write {D : DS} {n i : Nat} (h : Fuse D n i) (hn : n ≤ 60) (s : List UInt8) (hs : s.length = 64) : (D.write ((i : Int) % 6) s).1 = (if i < n then 0 else 9) ∧ Fuse (D.write ((i : Int) % 6) s).2 n (i + 1) := by
  obtain ⟨sure, loose, armed, left, down⟩ := D
  obtain ⟨h1, h2, h3, h4, h5⟩ := h
  simp only at h1 h2 h3 h4 h5
  subst h2
  subst h3
  subst h4
  have hc : ¬ ((i : Int) % 6 < 0 ∨ (sure.length : Int) ≤ (i : Int) % 6 ∨ s.length ≠ 64) := by rintro (x | x | x) <;> omega
  by_cases hlt : i < n
  · have hb : DS.burn ⟨sure, loose, true, ((n - i : Nat) : Int), decide (n < i)⟩ = (0, ⟨sure, loose, true, ((n - (i + 1) : Nat) : Int), false⟩) := by
      have hw : IntKind.i64.wrap (((n - i : Nat) : Int) - 1) = ((n - (i + 1) : Nat) : Int) := by
        rw [IntWalk.i64_in _ (by omega)]; omega
      have h0 : ¬ (((n - i : Nat) : Int) = 0) := by omega
      have hd : decide (n < i) = false := decide_eq_false (by omega)
      have h0n : ¬ (n - i = 0) := by omega
      simp [DS.burn, burns, h0n, hd, hw]
    unfold DS.write
    rw [if_neg hc, hb, if_pos rfl, if_pos hlt]
    exact ⟨rfl, ⟨h1, rfl, rfl, by simp only; symm; exact decide_eq_false (by omega), by simp only [List.length_append, List.length_singleton, h5]; omega⟩⟩
  · have h0 : (n - i : Nat) = 0 := by omega
    have hb : DS.burn ⟨sure, loose, true, ((n - i : Nat) : Int), decide (n < i)⟩ = (9, ⟨sure, loose, true, ((n - (i + 1) : Nat) : Int), true⟩) := by
      have h1' : (n - (i + 1) : Nat) = 0 := by omega
      rw [h0, h1']; simp [DS.burn, burns]
    unfold DS.write
    rw [if_neg hc, hb, if_neg (by simp), if_neg hlt]
    exact ⟨rfl, ⟨h1, rfl, rfl, by simp only; symm; exact decide_eq_true (by omega), by simp only [h5]; omega⟩⟩
def FuseAt (w : World) (b n i : Nat) (W : World) : Prop := ∃ D t, IsDrum b D t ∧ Fuse D n i ∧ Sep w.heap.size w W [t]
theorem fuse_start {D : DS} (hs : D.sure.length = 6) (n : Nat) : ((D.crash []).arm (n : Int)).1 = 0 ∧ Fuse ((D.crash []).arm (n : Int)).2 n 0 := by
  unfold DS.arm
  rw [if_neg (by omega), if_neg (by simp [DS.crash])]
  exact ⟨rfl, ⟨by simp only [DS.crash]; rw [keepN_len]; exact hs, rfl, by simp, by simp [DS.crash], by simp [DS.crash]⟩⟩
theorem fuse_end {D : DS} {n i : Nat} (h : Fuse D n i) (hi : n < i) : D.down = true ∧ D.read 0 = ([], 9) ∧ D.loose.length = n ∧ (D.crash []).down = false ∧ (D.crash []).settle.1 = 0 := by
  have hd : D.down = true := by rw [h.down]; exact decide_eq_true hi
  refine ⟨hd, by unfold DS.read; rw [if_pos hd], by rw [h.loose]; omega, rfl, ?_⟩
  unfold DS.settle
  have : (D.crash []).burn.1 = 0 := by simp [DS.burn, burns, DS.crash]
  rw [if_pos this]
def sx : List UInt8 := sec ⟨#[120]⟩
set_option maxRecDepth 100000 in
set_option maxHeartbeats 16000000 in
theorem fuse_walk (a : Option Addr) (len cap : Nat) (acts : List ActV) (n more : Int) (w : World) (h : ActsIn w.heap.size w a len acts) :
    Calls Try.prog 6 #[.slice a len cap, .int .i64 n, .int .i64 more] w fun e w' => e = .returned (.bool true) ∧ Below w.heap.size w w' := by
  have hfew := few_at w.heap.size a len cap acts w h
  by_cases hg : fewB acts = true ∧ 0 ≤ n ∧ n ≤ 60 ∧ 1 ≤ more ∧ more ≤ 60
  · obtain ⟨g1, g2, g3, g4, g5⟩ := hg
    rw [g1] at hfew
    obtain ⟨N, rfl⟩ : ∃ N : Nat, n = (N : Int) := ⟨n.toNat, by omega⟩
    obtain ⟨M, rfl⟩ : ∃ M : Nat, more = (M : Int) := ⟨more.toNat, by omega⟩
    have hbg := begun_at w.heap.size w w [] a len cap acts h g1 (Sep.start w)
    have hlen : len ≤ 150 := by
      unfold fewB at g1; simp only [Bool.and_eq_true, decide_eq_true_eq] at g1
      have := h.len; omega
    have HF := Lib.hid hfew
    have HBG := Lib.hid hbg
    clear h hfew hbg g1
    go_enter Try.func6, Try.ntmps6
    go_wp2_with fail
    refine HF.out.mono ?_
    rintro e w' ⟨rfl, rfl⟩
    go_wp2_with fail
    refine HBG.out.mono ?_
    rintro e W1 ⟨b, D, t, rfl, ht, hsl, hll, hs⟩
    have HT := Lib.hid ht
    have HSL := Lib.hid hsl
    have HLL := Lib.hid hll
    have HS := Lib.hid hs
    clear ht hsl hll hs
    go_wp2_with fail
    refine (crash_sep HS.out HT.out (by have := HLL.out; omega) .none 0 0 [] (IntsAt.none _) (fun h0 => absurd h0 (by decide))).mono ?_
    rintro e W2 ⟨t2, rfl, ht2, hs2⟩
    have HT2 := Lib.hid ht2
    have HS2 := Lib.hid hs2
    clear ht2 hs2
    go_wp2_with fail
    obtain ⟨hst1, hst2⟩ := fuse_start HSL.out N
    have HST2 := Lib.hid hst2
    have harm := arm_sep HS2.out HT2.out (N : Int)
    refine harm.mono ?_
    clear harm hst2
    rintro e W3 ⟨t3, rfl, ht3, hs3⟩
    rw [hst1]
    clear hst1
    have HFU : Hid (FuseAt w b N 0 W3) := Lib.hid ⟨_, t3, ht3, HST2.out, hs3⟩
    clear ht3 hs3
    go_wp2_with fail
    go_loopw [8] (fun i wr => ∃ k : Nat, k ≤ N + M ∧ i = .int .i64 (k : Int) ∧ FuseAt w b N k wr) (fun i _ => N + M - (intOf i).toNat)
    case atStart => exact ⟨0, Nat.zero_le _, rfl, HFU.out⟩
    case round =>
      obtain ⟨k, hk, rfl, hfu⟩ := hrel
      by_cases hlt : k < N + M
      · obtain ⟨D1, t4, ht4, hf4, hs4⟩ := hfu
        obtain ⟨hw1, hw2⟩ := fuse_write hf4 (by omega) sx (sec_len _)
        have HT4 := Lib.hid ht4
        have HF4 := Lib.hid hf4
        have HS4 := Lib.hid hs4
        have HW1 := Lib.hid hw1
        have HW2 := Lib.hid hw2
        clear ht4 hf4 hs4 hw1 hw2
        go_wp2_with fail
        refine (sector_any ⟨#[120]⟩ (by decide) _).mono ?_
        rintro e W5 ⟨rfl, hn5⟩
        have hs5 := HS4.out.grown hn5
        have HS5 := Lib.hid hs5
        clear hs5 hn5
        go_wp2_with fail
        have hwr := write_sep HS5.out HT4.out ((k : Int) % 6) (str sx) (by show sx.toArray.size ≤ _; rw [List.size_toArray]; have := sec_len ⟨#[120]⟩; unfold sx; omega) (by have := HF4.out.loose; omega)
        have hwe : (D1.write ((k : Int) % 6) (str sx).data.toList) = D1.write ((k : Int) % 6) sx := rfl
        rw [hwe] at hwr
        refine hwr.mono ?_
        clear hwr hwe
        rintro e W6 ⟨t6, rfl, ht6, hs6⟩
        rw [HW1.out]
        have HFU6 : Hid (FuseAt w b N (k + 1) W6) := Lib.hid ⟨_, t6, ht6, HW2.out, hs6⟩
        clear ht6 hs6
        by_cases hkn : k < N
        · rw [if_pos hkn]
          go_wp2_with fail
          go_roundw
          case rel => exact ⟨k + 1, by omega, by go_num, HFU6.out⟩
          case measure => simp [intOf]; omega
        · rw [if_neg hkn]
          go_wp2_with fail
          go_roundw
          case rel => exact ⟨k + 1, by omega, by go_num, HFU6.out⟩
          case measure => simp [intOf]; omega
      · obtain rfl : k = N + M := by omega
        obtain ⟨D1, t4, ht4, hf4, hs4⟩ := hfu
        obtain ⟨x1, x2, x3, x4, x5⟩ := fuse_end hf4 (by omega)
        have HT4 := Lib.hid ht4
        have HF4 := Lib.hid hf4
        have HS4 := Lib.hid hs4
        have X1 := Lib.hid x1
        have X2 := Lib.hid x2
        have X3 := Lib.hid x3
        have X4 := Lib.hid x4
        have X5 := Lib.hid x5
        clear ht4 hf4 hs4 x1 x2 x3 x4 x5
        go_wp2_with fail
        refine (read_sep HS4.out HT4.out (by have := X3.out; omega) 0).mono ?_
        rw [X2.out]
        rintro e W5 ⟨rfl, hs5⟩
        have HS5 := Lib.hid hs5
        clear hs5
        go_wp2_with fail
        refine (down_sep HS5.out HT4.out).mono ?_
        rw [X1.out]
        rintro e w' ⟨rfl, rfl⟩
        go_wp2_with fail
        refine (loose_sep HS5.out HT4.out).mono ?_
        rw [X3.out]
        rintro e w' ⟨rfl, rfl⟩
        go_wp2_with fail
        refine (crash_sep HS5.out HT4.out (by have := X3.out; omega) .none 0 0 [] (IntsAt.none _) (fun h0 => absurd h0 (by decide))).mono ?_
        rintro e W6 ⟨t6, rfl, ht6, hs6⟩
        have HT6 := Lib.hid ht6
        have HS6 := Lib.hid hs6
        clear ht6 hs6
        go_wp2_with fail
        refine (down_sep HS6.out HT6.out).mono ?_
        rw [show (0, D1.crash []).2.down = false from X4.out]
        rintro e w' ⟨rfl, rfl⟩
        go_wp2_with fail
        refine (settle_sep HS6.out HT6.out (by simp [DS.crash])).mono ?_
        rintro e W7 ⟨t7, rfl, ht7, hs7⟩
        rw [show (0, D1.crash []).2.settle.1 = 0 from X5.out]
        have HS7 := Lib.hid hs7
        clear ht7 hs7
        go_wp2_with fail
        refine (lives_any _).mono ?_
        rintro e W8 ⟨rfl, hn8⟩
        have HS8 := Lib.hid (HS7.out.grown hn8)
        clear hn8
        go_wp2_with fail
        go_ret
        exact ⟨rfl, HS8.out.below⟩
  · cases hb : fewB acts with
    | false =>
      rw [hb] at hfew
      have HF := Lib.hid hfew
      clear hfew h hg hb
      go_enter Try.func6, Try.ntmps6
      go_wp2_with fail
      refine HF.out.mono ?_
      rintro e w' ⟨rfl, rfl⟩
      go_wp2_with fail
      refine (lives_any _).mono ?_
      rintro e w' ⟨rfl, hn⟩
      go_wp2_with fail
      go_ret
      exact ⟨rfl, hn⟩
    | true =>
      rw [hb] at hfew
      have HF := Lib.hid hfew
      clear hfew h
      by_cases g2 : n < 0
      · clear hg hb
        go_enter Try.func6, Try.ntmps6
        go_wp2_with fail
        refine HF.out.mono ?_
        rintro e w' ⟨rfl, rfl⟩
        go_wp2_with fail
        refine (lives_any _).mono ?_
        rintro e w' ⟨rfl, hn⟩
        go_wp2_with fail
        go_ret
        exact ⟨rfl, hn⟩
      · by_cases g3 : 60 < n
        · clear hg hb
          go_enter Try.func6, Try.ntmps6
          go_wp2_with fail
          refine HF.out.mono ?_
          rintro e w' ⟨rfl, rfl⟩
          go_wp2_with fail
          refine (lives_any _).mono ?_
          rintro e w' ⟨rfl, hn⟩
          go_wp2_with fail
          go_ret
          exact ⟨rfl, hn⟩
        · by_cases g4 : more < 1
          · clear hg hb
            go_enter Try.func6, Try.ntmps6
            go_wp2_with fail
            refine HF.out.mono ?_
            rintro e w' ⟨rfl, rfl⟩
            go_wp2_with fail
            refine (lives_any _).mono ?_
            rintro e w' ⟨rfl, hn⟩
            go_wp2_with fail
            go_ret
            exact ⟨rfl, hn⟩
          · have g5 : 60 < more := by
              by_cases h : 60 < more
              · exact h
              · exact absurd ⟨hb, by omega, by omega, by omega, by omega⟩ hg
            clear hg hb
            go_enter Try.func6, Try.ntmps6
            go_wp2_with fail
            refine HF.out.mono ?_
            rintro e w' ⟨rfl, rfl⟩
            go_wp2_with fail
            refine (lives_any _).mono ?_
            rintro e w' ⟨rfl, hn⟩
            go_wp2_with fail
            go_ret
            exact ⟨rfl, hn⟩
end Go.Proofs.Ytjnbdikhajnciaa.Drum
