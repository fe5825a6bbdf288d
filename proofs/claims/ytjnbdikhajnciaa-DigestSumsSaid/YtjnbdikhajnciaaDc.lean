/- Walks of the digest: the words of a block. -/
import Derived.Test.YtjnbdikhajnciaaDb
import Derived.StillTailTactics
import Derived.Deep.LoopGhost
import Derived.LoopTactic
namespace Go.Proofs.Ytjnbdikhajnciaa.Dig
open Go.RowKit Go.Proofs.Ytjnbdikhajnciaa.Sha

/-- The words that a spread has so far, and zeros. -/
def sofar (l : List UInt8) (n : Nat) : List (BitVec 32) := words l n ++ List.replicate (64 - n) 0
theorem sofar_len (l : List UInt8) (n : Nat) (h : n ≤ 64) : (sofar l n).length = 64 := by simp [sofar, words_len]; omega
theorem sofar_set (l : List UInt8) (n : Nat) (h : n < 64) : (sofar l n).set n (next l (words l n) n) = sofar l (n + 1) := by
  have hw := words_len l n
  unfold sofar
  rw [List.set_append_right _ _ (by omega), hw, Nat.sub_self, show 64 - n = (64 - (n + 1)) + 1 by omega, List.replicate_succ]
  simp [words]
theorem sofar_get (l : List UInt8) (n i : Nat) (h : i < n) : (sofar l n).getD i 0 = (words l n).getD i 0 := by
  have hw := words_len l n
  simp only [sofar, List.getD_eq_getElem?_getD]
  rw [List.getElem?_append_left (by omega)]
theorem sofar_full (l : List UInt8) : sofar l 64 = words l 64 := by simp [sofar]

/-- A block of words. -/
def Row (t : TypeId) (w : World) (b : Nat) (cur : List (BitVec 32)) : Prop := w.heap[b]? = some (.cells (Us cur).toArray t (0, 0))
theorem Row.cell {t : TypeId} {w : World} {b : Nat} {cur : List (BitVec 32)} (h : Row t w b cur) (i : Nat) (hi : i < cur.length) : w.cell? ⟨b, i, none⟩ = some (.int .u32 (u (cur.getD i 0))) := by
  rw [cell_of_row w b i _ t (0, 0) h]; simp only [List.getElem?_toArray]; exact getD_cells cur i hi
theorem Row.free {t : TypeId} {w : World} {b : Nat} {cur : List (BitVec 32)} (h : Row t w b cur) (i : Nat) : w.frozen? ⟨b, i, none⟩ = false := frozen_of_row w b i _ t h
theorem Us_set (cur : List (BitVec 32)) (i : Nat) (x : BitVec 32) : (Us cur).toArray.setIfInBounds i (U x) = (Us (cur.set i x)).toArray := by
  simp [Us, List.map_set]
theorem Row.store {t : TypeId} {w : World} {b : Nat} {cur : List (BitVec 32)} (h : Row t w b cur) (i : Nat) (x : BitVec 32) : Row t (w.setCell ⟨b, i, none⟩ (.int .u32 (u x))) b (cur.set i x) := by
  have := heap_setCell_same w b i _ t (U x) h
  rw [Us_set] at this; exact this
theorem Row.other {t : TypeId} {w : World} {b : Nat} {cur : List (BitVec 32)} (h : Row t w b cur) (a : Addr) (v : Value) (hne : b ≠ a.block) : Row t (w.setCell a v) b cur := by
  unfold Row; rw [heap_setCell_other w a b v hne]; exact h
theorem Row.drew {t : TypeId} {w : World} {b : Nat} {cur : List (BitVec 32)} (h : Row t w b cur) : Row t w.drew b cur := h
theorem Row.drewN {t : TypeId} {w : World} {b n : Nat} {cur : List (BitVec 32)} (h : Row t w b cur) : Row t (w.drewN n) b cur := h
theorem below_drewN' {B : Nat} {a w : World} {n : Nat} (h : Below B a w) : Below B a (w.drewN n) := ⟨h.os, h.tape, h.output, h.size, h.block⟩

/-- A region that reads, and stores at its end, in a world of a name of its own. -/
theorem region_tail {P : Program} {id : Nat} {Q : Exit → Act → World → Prop} {a : Act} {w : World} {l : List Oper} (n : Nat) (hm : P.follows .mixedOrders = true) (hB : Region.lexTailB .any l.toArray n = true)
    (h : ∀ w2, w2 = w.drew → wpStill P l.toArray w2 (fun a' => wpList P l.toArray Q (l.drop n) a' w2) (l.take n) a) : (Code.region id l.toArray true).wp P Q a w :=
  wp_region_still_tail n hm hB (h _ rfl)

structure Sp (t : TypeId) (w wr : World) (cur : List (BitVec 32)) : Prop where
  zero : Row t wr w.heap.size (List.replicate 64 0)
  row : Row t wr (w.heap.size + 1) cur
  len : cur.length = 64
  below : Below w.heap.size w wr
theorem Sp.start (t : TypeId) (w : World) (l : List UInt8) : Sp t w ((w.alloc (.cells (Us (List.replicate 64 0)).toArray t)).alloc (.cells (Us (List.replicate 64 0)).toArray t)) (sofar l 0) :=
  ⟨heap_alloc2_old _ _ _, heap_alloc2_new _ _ _, sofar_len l 0 (by omega), ((Below.refl _ _).alloc (Nat.le_refl _) _).alloc (by simp) _⟩
theorem Sp.size {t : TypeId} {w wr : World} {cur : List (BitVec 32)} (h : Sp t w wr cur) : w.heap.size + 1 < wr.heap.size := by
  have := h.row
  unfold Row at this
  exact (Array.getElem?_eq_some_iff.1 this).1
theorem Sp.store {t : TypeId} {w wr : World} {cur : List (BitVec 32)} (h : Sp t w wr cur) (i : Nat) (x : BitVec 32) : Sp t w (wr.setCell ⟨w.heap.size + 1, i, none⟩ (.int .u32 (u x))) (cur.set i x) :=
  ⟨h.zero.other _ _ (by simp), h.row.store i x, by simp [h.len], h.below.setCell (by simp) _⟩
theorem Sp.drew {t : TypeId} {w wr : World} {cur : List (BitVec 32)} (h : Sp t w wr cur) : Sp t w wr.drew cur := ⟨h.zero, h.row, h.len, h.below.drew⟩
theorem Sp.drewN {t : TypeId} {w wr : World} {n : Nat} {cur : List (BitVec 32)} (h : Sp t w wr cur) : Sp t w (wr.drewN n) cur := ⟨h.zero, h.row, h.len, below_drewN' h.below⟩

set_option maxRecDepth 100000 in
set_option maxHeartbeats 8000000 in
theorem spread_any (b : ByteArray) (hb : b.size = 64) (w : World) :
    Calls Try.prog 79 #[.string b] w fun e w' => e = .returned (.agg (Us (words b.data.toList 64)).toArray) ∧ Below w.heap.size w w' := by
  have HB := Lib.hid hb
  have hb' : 64 ≤ b.size := by omega
  clear hb
  go_enter Try.func79, Try.ntmps79
  go_wp2_with fail
  go_loopw [9] (fun i wr => ∃ k : Nat, k ≤ 16 ∧ i = .int .i64 k ∧ Sp 109 w wr (sofar b.data.toList k)) (fun i _ => 16 - (intOf i).toNat)
  case atStart => exact ⟨0, by omega, rfl, Sp.start _ _ _⟩
  case round =>
    obtain ⟨k, hk, rfl, hS⟩ := hrel
    by_cases hlt : k < 16
    · go_wp2_with fail
      obtain ⟨q, hq⟩ : ∃ q : Nat, q = 4 * k := ⟨_, rfl⟩
      obtain ⟨q1, hq1⟩ : ∃ q1 : Nat, q1 = q + 1 := ⟨_, rfl⟩
      obtain ⟨q2, hq2⟩ : ∃ q2 : Nat, q2 = q + 2 := ⟨_, rfl⟩
      obtain ⟨q3, hq3⟩ : ∃ q3 : Nat, q3 = q + 3 := ⟨_, rfl⟩
      have e0 : IntKind.i64.wrap (4 * (k : Int)) = (q : Int) := by rw [IntWalk.i64_in _ (by omega)]; omega
      have e1 : IntKind.i64.wrap ((q : Int) + 1) = (q1 : Int) := by rw [IntWalk.i64_in _ (by omega)]; omega
      have e2 : IntKind.i64.wrap ((q : Int) + 2) = (q2 : Int) := by rw [IntWalk.i64_in _ (by omega)]; omega
      have e3 : IntKind.i64.wrap ((q : Int) + 3) = (q3 : Int) := by rw [IntWalk.i64_in _ (by omega)]; omega
      have hnum : number b.data.toList (4 * k) = (ofByte (b.data.toList.getD q 0) <<< 24) ||| (ofByte (b.data.toList.getD q1 0) <<< 16) ||| (ofByte (b.data.toList.getD q2 0) <<< 8) ||| ofByte (b.data.toList.getD q3 0) := by
        subst hq hq1 hq2 hq3; rfl
      have i0 := run_index_str (P := Try.prog) 9 b q Try.underlying9 (by omega)
      have i1 := run_index_str (P := Try.prog) 9 b q1 Try.underlying9 (by omega)
      have i2 := run_index_str (P := Try.prog) 9 b q2 Try.underlying9 (by omega)
      have i3 := run_index_str (P := Try.prog) 9 b q3 Try.underlying9 (by omega)
      generalize b.data.toList.getD q 0 = c0 at *
      generalize b.data.toList.getD q1 0 = c1 at *
      generalize b.data.toList.getD q2 0 = c2 at *
      generalize b.data.toList.getD q3 0 = c3 at *
      have f0 := conv_u32 c0
      have f1 := conv_u32 c1
      have f2 := conv_u32 c2
      have f3 := conv_u32 c3
      have g0 := shl_24 (ofByte c0)
      have g1 := shl_16 (ofByte c1)
      have g2 := shl_8 (ofByte c2)
      have b1 := bits_or (ofByte c0 <<< 24) (ofByte c1 <<< 16)
      have b2 := bits_or (ofByte c0 <<< 24 ||| ofByte c1 <<< 16) (ofByte c2 <<< 8)
      have b3 := bits_or (ofByte c0 <<< 24 ||| ofByte c1 <<< 16 ||| ofByte c2 <<< 8) (ofByte c3)
      have hcell := hS.row.cell k (by have := hS.len; omega)
      have hfree := hS.row.free k
      have kb : (k : Int) < 64 := by omega
      have HN := Lib.hid hnum
      have Q0 := Lib.hid hq
      have Q1 := Lib.hid hq1
      have Q2 := Lib.hid hq2
      have Q3 := Lib.hid hq3
      clear hnum hq hq1 hq2 hq3
      go_still_tail 31, (by kernel_rfl)
      change wpList _ _ _ _ _ wr.drew
      go_wp2_with fail
      go_roundw
      case rel =>
        refine ⟨k + 1, by omega, by go_num, ?_⟩
        have hs := (hS.store k (ofByte c0 <<< 24 ||| ofByte c1 <<< 16 ||| ofByte c2 <<< 8 ||| ofByte c3)).drew
        have hn : next b.data.toList (words b.data.toList k) k = (ofByte c0 <<< 24 ||| ofByte c1 <<< 16 ||| ofByte c2 <<< 8 ||| ofByte c3) := by
          unfold next; rw [if_pos hlt]; exact HN.out
        rw [← hn, sofar_set _ _ (by omega)] at hs
        rw [← hn]
        exact hs
      case measure => simp [intOf]; omega
    · have hS := (show k = 16 by omega) ▸ hS
      have hd : decide ((k : Int) < 16) = false := decide_eq_false (by omega)
      go_wp2_with fail
      go_loopw [44] (fun i wr => ∃ k : Nat, k ≤ 48 ∧ i = .int .i64 k ∧ Sp 109 w wr (sofar b.data.toList (16 + k))) (fun i _ => 48 - (intOf i).toNat)
      case atStart => exact ⟨0, by omega, rfl, hS⟩
      case round =>
        clear hS hlt hk
        obtain ⟨k, hk, rfl, hS⟩ := hrel
        by_cases hlt : k < 48
        · obtain ⟨n, hn⟩ : ∃ n : Nat, n = 16 + k := ⟨_, rfl⟩
          obtain ⟨m15, h15⟩ : ∃ q : Nat, q + 15 = n := ⟨n - 15, by omega⟩
          obtain ⟨m2, h2⟩ : ∃ q : Nat, q + 2 = n := ⟨n - 2, by omega⟩
          obtain ⟨m16, h16⟩ : ∃ q : Nat, q + 16 = n := ⟨n - 16, by omega⟩
          obtain ⟨m7, h7⟩ : ∃ q : Nat, q + 7 = n := ⟨n - 7, by omega⟩
          have e0 : IntKind.i64.wrap ((k : Int) + 16) = (n : Int) := by rw [IntWalk.i64_in _ (by omega)]; omega
          have e0' : (16 : Int) + (k : Int) = (n : Int) := by omega
          have e15 : IntKind.i64.wrap ((n : Int) - 15) = (m15 : Int) := by rw [IntWalk.i64_in _ (by omega)]; omega
          have e2 : IntKind.i64.wrap ((n : Int) - 2) = (m2 : Int) := by rw [IntWalk.i64_in _ (by omega)]; omega
          have e16 : IntKind.i64.wrap ((n : Int) - 16) = (m16 : Int) := by rw [IntWalk.i64_in _ (by omega)]; omega
          have e7 : IntKind.i64.wrap ((n : Int) - 7) = (m7 : Int) := by rw [IntWalk.i64_in _ (by omega)]; omega
          have hlen := hS.len
          have c15 := hS.row.cell m15 (by omega)
          have c2 := hS.row.cell m2 (by omega)
          have c16 := hS.row.cell m16 (by omega)
          have c7 := hS.row.cell m7 (by omega)
          have cn := hS.row.cell n (by omega)
          have hfree := hS.row.free n
          generalize hx15 : (sofar b.data.toList (16 + k)).getD m15 0 = x15 at *
          generalize hx2 : (sofar b.data.toList (16 + k)).getD m2 0 = x2 at *
          generalize hx16 : (sofar b.data.toList (16 + k)).getD m16 0 = x16 at *
          generalize hx7 : (sofar b.data.toList (16 + k)).getD m7 0 = x7 at *
          have b15 : (m15 : Int) < 64 := by omega
          have b2 : (m2 : Int) < 64 := by omega
          have b16 : (m16 : Int) < 64 := by omega
          have b7 : (m7 : Int) < 64 := by omega
          have bn : (n : Int) < 64 := by omega
          have hnext : next b.data.toList (words b.data.toList (16 + k)) (16 + k) = s1 x2 + x7 + s0 x15 + x16 := by
            rw [← hn, ← hx15, ← hx2, ← hx16, ← hx7, ← hn]
            unfold next
            rw [if_neg (by omega), sofar_get _ _ _ (by omega), sofar_get _ _ _ (by omega), sofar_get _ _ _ (by omega), sofar_get _ _ _ (by omega)]
            rw [show n - 2 = m2 by omega, show n - 7 = m7 by omega, show n - 15 = m15 by omega, show n - 16 = m16 by omega]
          have HN := Lib.hid hnext
          have X0 := Lib.hid hn
          have X1 := Lib.hid hx15
          have X2 := Lib.hid hx2
          have X3 := Lib.hid hx16
          have X4 := Lib.hid hx7
          have X5 := Lib.hid h15
          have X6 := Lib.hid h2
          have X7 := Lib.hid h16
          have X8 := Lib.hid h7
          have X9 := Lib.hid hlen
          clear hnext hn hx15 hx2 hx16 hx7 h15 h2 h16 h7 hlen
          go_wp2_with fail
          go_quiet (fail)
          go_wp2_with fail
          have hS1 := hS.drewN (n := nq)
          generalize wr.drewN nq = w1 at *
          have ad := wrap_add x16 x7
          refine region_tail 11 (by kernel_rfl) (by kernel_rfl) ?_
          intro w2 hw2
          have hS2 := hS1.drew
          rw [← hw2] at hS2
          clear hw2 c15 c2 hS1 hS
          have c16 := hS2.row.cell m16 (by have := hS2.len; have := X7.out; have := X0.out; omega)
          have c7 := hS2.row.cell m7 (by have := hS2.len; have := X8.out; have := X0.out; omega)
          have cn := hS2.row.cell n (by have := hS2.len; omega)
          have hfree := hS2.row.free n
          rw [X3.out] at c16
          rw [X4.out] at c7
          simp only [List.take_succ_cons, List.take_zero, List.drop_succ_cons, List.drop_zero]
          repeat still_step
          try refine wpStill_nil ?_
          go_wp2_with fail
          clear ad c16 c7 cn hfree
          have hS3 := hS2.store n (x16 + x7)
          clear hS2
          generalize w2.setCell _ _ = w3 at *
          refine region_tail 13 (by kernel_rfl) (by kernel_rfl) ?_
          intro w4 hw4
          have hS4 := hS3.drew
          rw [← hw4] at hS4
          clear hw4 hS3
          have cn := hS4.row.cell n (by have := hS4.len; omega)
          have hfree := hS4.row.free n
          have hg : ((sofar b.data.toList (16 + k)).set n (x16 + x7)).getD n 0 = x16 + x7 := by
            have := X9.out; rw [List.getD_eq_getElem?_getD, List.getElem?_set_self (by omega)]; rfl
          rw [hg] at cn
          have y1 := bits_xor (rotr x15 7) (rotr x15 18)
          have y2 := bits_xor (rotr x15 7 ^^^ rotr x15 18) (x15 >>> 3)
          have y3 := shr_3 x15
          have y4 := wrap_add (x16 + x7) (rotr x15 7 ^^^ rotr x15 18 ^^^ x15 >>> 3)
          clear hg
          simp only [List.take_succ_cons, List.take_zero, List.drop_succ_cons, List.drop_zero]
          repeat still_step
          still_call ((right_any x15 7 _ (by omega) (by omega)).mono fun e w' h => ⟨h.1, h.2.symm⟩)
          repeat still_step
          still_call ((right_any x15 18 _ (by omega) (by omega)).mono fun e w' h => ⟨h.1, h.2.symm⟩)
          repeat still_step
          try refine wpStill_nil ?_
          go_wp2_with fail
          clear y1 y2 y3 y4 cn hfree
          have hS5 := hS4.store n (x16 + x7 + (rotr x15 7 ^^^ rotr x15 18 ^^^ x15 >>> 3))
          clear hS4
          rw [List.set_set] at hS5
          generalize w4.setCell _ _ = w5 at *
          refine region_tail 13 (by kernel_rfl) (by kernel_rfl) ?_
          intro w6 hw6
          have hS6 := hS5.drew
          rw [← hw6] at hS6
          clear hw6 hS5
          have hT : x16 + x7 + (rotr x15 7 ^^^ rotr x15 18 ^^^ x15 >>> 3) = x16 + x7 + s0 x15 := rfl
          rw [hT] at hS6
          rw [hT]
          clear hT
          generalize hz : x16 + x7 + s0 x15 = z at *
          have Z := Lib.hid hz
          clear hz
          have cn := hS6.row.cell n (by have := hS6.len; omega)
          have hfree := hS6.row.free n
          have hg : ((sofar b.data.toList (16 + k)).set n z).getD n 0 = z := by
            have := X9.out; rw [List.getD_eq_getElem?_getD, List.getElem?_set_self (by omega)]; rfl
          rw [hg] at cn
          have y1 := bits_xor (rotr x2 17) (rotr x2 19)
          have y2 := bits_xor (rotr x2 17 ^^^ rotr x2 19) (x2 >>> 10)
          have y3 := shr_10 x2
          have y4 := wrap_add z (rotr x2 17 ^^^ rotr x2 19 ^^^ x2 >>> 10)
          clear hg
          simp only [List.take_succ_cons, List.take_zero, List.drop_succ_cons, List.drop_zero]
          repeat still_step
          still_call ((right_any x2 17 _ (by omega) (by omega)).mono fun e w' h => ⟨h.1, h.2.symm⟩)
          repeat still_step
          still_call ((right_any x2 19 _ (by omega) (by omega)).mono fun e w' h => ⟨h.1, h.2.symm⟩)
          repeat still_step
          try refine wpStill_nil ?_
          go_wp2_with fail
          clear y1 y2 y3 y4 cn hfree
          go_roundw
          case rel =>
            refine ⟨k + 1, by omega, by go_num, ?_⟩
            have hs := hS6.store n (z + (rotr x2 17 ^^^ rotr x2 19 ^^^ x2 >>> 10))
            rw [List.set_set] at hs
            have hv : z + (rotr x2 17 ^^^ rotr x2 19 ^^^ x2 >>> 10) = next b.data.toList (words b.data.toList (16 + k)) n := by
              have e1 := HN.out; have e2 := X0.out
              rw [e2, e1, ← Z.out]
              show x16 + x7 + s0 x15 + s1 x2 = _
              ac_rfl
            rw [hv, X0.out, sofar_set _ _ (by omega)] at hs
            rw [← Nat.add_assoc]
            rw [hv, X0.out]
            exact hs
          case measure => simp [intOf]; omega
        · obtain rfl : k = 48 := by omega
          have hd : decide ((48 : Int) < 48) = false := by decide
          go_wp2_with (first
            | (refine wpList_load_row rfl 109 _ rfl (w.heap.size + 1) rfl 109 _ (0, 0) _ hS.row Try.underlying109 rfl (by rw [info109]; simp [Us, hS.len]) ?_)
            | (refine wpList_store_row rfl 109 _ _ rfl w.heap.size (Us (sofar b.data.toList (16 + 48))).toArray rfl rfl 109 _ hS.zero (by rw [info109]; simp [Us, hS.len]) (by simp [Us, hS.len]) (Us_all _) ?_))
          rw [show 16 + 48 = 64 from rfl, sofar_full]
          refine bodyPost_ret (v := .agg (Us (words b.data.toList 64)).toArray) (results_cell_row rfl _ _ w.heap.size 109 _ (0, 0) _ rfl (setRow_heap _ _ _ _ _ _ hS.zero) Try.underlying109 rfl (by rw [info109]; simp [Us, words_len])) rfl ⟨rfl, ?_⟩
          exact hS.below.trans ⟨rfl, rfl, rfl, by simp, fun j hj => setRow_other _ _ _ _ (by omega)⟩
end Go.Proofs.Ytjnbdikhajnciaa.Dig
