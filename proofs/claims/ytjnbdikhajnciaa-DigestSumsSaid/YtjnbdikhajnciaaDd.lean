/- Walks of the reference's digest: the words of a block. -/
import Derived.Test.YtjnbdikhajnciaaDc
namespace Go.Proofs.Ytjnbdikhajnciaa.Dig
open Go.RowKit Go.Proofs.Ytjnbdikhajnciaa.Sha

set_option maxRecDepth 100000 in
set_option maxHeartbeats 8000000 in
theorem number_any (b : ByteArray) (q : Nat) (hb : q + 3 < b.size) (hq : q < 1000000) (w : World) :
    Calls Try.prog 78 #[.string b, .int .i64 (q : Int)] w fun e w' => e = .returned (.int .u32 (u (number b.data.toList q))) ∧ ∃ n, w' = w.drewN n := by
  obtain ⟨q1, hq1⟩ : ∃ q1 : Nat, q1 = q + 1 := ⟨_, rfl⟩
  obtain ⟨q2, hq2⟩ : ∃ q2 : Nat, q2 = q + 2 := ⟨_, rfl⟩
  obtain ⟨q3, hq3⟩ : ∃ q3 : Nat, q3 = q + 3 := ⟨_, rfl⟩
  have e1 : IntKind.i64.wrap ((q : Int) + 1) = (q1 : Int) := by rw [IntWalk.i64_in _ (by omega)]; omega
  have e2 : IntKind.i64.wrap ((q : Int) + 2) = (q2 : Int) := by rw [IntWalk.i64_in _ (by omega)]; omega
  have e3 : IntKind.i64.wrap ((q : Int) + 3) = (q3 : Int) := by rw [IntWalk.i64_in _ (by omega)]; omega
  have hnum : number b.data.toList q = (ofByte (b.data.toList.getD q 0) <<< 24) ||| (ofByte (b.data.toList.getD q1 0) <<< 16) ||| (ofByte (b.data.toList.getD q2 0) <<< 8) ||| ofByte (b.data.toList.getD q3 0) := by
    subst hq1 hq2 hq3; rfl
  have i0 := run_index_str (P := Try.prog) 9 b q Try.underlying9 (by omega)
  have i1 := run_index_str (P := Try.prog) 9 b q1 Try.underlying9 (by omega)
  have i2 := run_index_str (P := Try.prog) 9 b q2 Try.underlying9 (by omega)
  have i3 := run_index_str (P := Try.prog) 9 b q3 Try.underlying9 (by omega)
  rw [hnum]
  clear hnum
  generalize b.data.toList.getD q 0 = c0 at *
  generalize b.data.toList.getD q1 0 = c1 at *
  generalize b.data.toList.getD q2 0 = c2 at *
  generalize b.data.toList.getD q3 0 = c3 at *
  have f0 := conv_u32 c0
  have f1 := conv_u32 c1
  have f2 := conv_u32 c2
  have f3 := conv_u32 c3
  have g0 := shl_24 (ofByte c0)
  have g1 := shl_16 (ofByte c1)
  have g2 := shl_8 (ofByte c2)
  have b1 := bits_or (ofByte c0 <<< 24) (ofByte c1 <<< 16)
  have b2 := bits_or (ofByte c0 <<< 24 ||| ofByte c1 <<< 16) (ofByte c2 <<< 8)
  have b3 := bits_or (ofByte c0 <<< 24 ||| ofByte c1 <<< 16 ||| ofByte c2 <<< 8) (ofByte c3)
  clear hq1 hq2 hq3
  go_enter Try.func78, Try.ntmps78
  go_wp2_with fail
  go_quiet (fail)
  go_wp2_with fail
  go_ret
  exact ⟨rfl, nq, rfl⟩

theorem info105 : (Try.prog.info? 105).map (·.size) = some 64 := by kernel_rfl
set_option maxRecDepth 100000 in
set_option maxHeartbeats 8000000 in
theorem refwords_any (b : ByteArray) (hb : b.size = 64) (w : World) :
    Calls Try.prog 69 #[.string b] w fun e w' => e = .returned (.agg (Us (words b.data.toList 64)).toArray) ∧ Below w.heap.size w w' := by
  have HB := Lib.hid hb
  have hb' : 64 ≤ b.size := by omega
  clear hb
  go_enter Try.func69, Try.ntmps69
  go_wp2_with fail
  go_loopw [4] (fun i wr => ∃ k : Nat, k ≤ 64 ∧ i = .int .i64 k ∧ Sp 105 w wr (sofar b.data.toList k)) (fun i _ => 64 - (intOf i).toNat)
  case atStart => exact ⟨0, by omega, rfl, Sp.start _ _ _⟩
  case round =>
    obtain ⟨k, hk, rfl, hS⟩ := hrel
    by_cases hlt : k < 64
    · have kb : (k : Int) < 64 := by omega
      by_cases h16 : k < 16
      · obtain ⟨q, hq⟩ : ∃ q : Nat, q = 4 * k := ⟨_, rfl⟩
        have e0 : IntKind.i64.wrap (4 * (k : Int)) = (q : Int) := by rw [IntWalk.i64_in _ (by omega)]; omega
        have hq1 : q + 3 < b.size := by omega
        have hq2 : q < 1000000 := by omega
        have hcell := hS.row.cell k (by have := hS.len; omega)
        have hfree := hS.row.free k
        have HQ := Lib.hid hq
        clear hq
        go_wp2_with (go_at_call 78; refine (number_any b q hq1 hq2 _).mono ?_; rintro e w' ⟨rfl, n, rfl⟩)
        go_roundw
        case rel =>
          refine ⟨k + 1, by omega, by go_num, ?_⟩
          have hs := (hS.drewN (n := n)).store k (number b.data.toList q)
          have hn : next b.data.toList (words b.data.toList k) k = number b.data.toList q := by
            unfold next; rw [if_pos h16, HQ.out]
          rw [← hn, sofar_set _ _ (by omega)] at hs
          rw [← hn]
          exact hs
        case measure => simp [intOf]; omega
      · have hge : decide ((k : Int) < 16) = false := decide_eq_false (by omega)
        obtain ⟨m15, h15⟩ : ∃ q : Nat, q + 15 = k := ⟨k - 15, by omega⟩
        obtain ⟨m2, h2⟩ : ∃ q : Nat, q + 2 = k := ⟨k - 2, by omega⟩
        obtain ⟨m16, hm16⟩ : ∃ q : Nat, q + 16 = k := ⟨k - 16, by omega⟩
        obtain ⟨m7, h7⟩ : ∃ q : Nat, q + 7 = k := ⟨k - 7, by omega⟩
        have e15 : IntKind.i64.wrap ((k : Int) - 15) = (m15 : Int) := by rw [IntWalk.i64_in _ (by omega)]; omega
        have e2 : IntKind.i64.wrap ((k : Int) - 2) = (m2 : Int) := by rw [IntWalk.i64_in _ (by omega)]; omega
        have e16 : IntKind.i64.wrap ((k : Int) - 16) = (m16 : Int) := by rw [IntWalk.i64_in _ (by omega)]; omega
        have e7 : IntKind.i64.wrap ((k : Int) - 7) = (m7 : Int) := by rw [IntWalk.i64_in _ (by omega)]; omega
        have hlen := hS.len
        have c15 := hS.row.cell m15 (by omega)
        have c2 := hS.row.cell m2 (by omega)
        generalize hx15 : (sofar b.data.toList k).getD m15 0 = x15 at *
        generalize hx2 : (sofar b.data.toList k).getD m2 0 = x2 at *
        generalize hx16 : (sofar b.data.toList k).getD m16 0 = x16 at *
        generalize hx7 : (sofar b.data.toList k).getD m7 0 = x7 at *
        have b15 : (m15 : Int) < 64 := by omega
        have b2 : (m2 : Int) < 64 := by omega
        have b16 : (m16 : Int) < 64 := by omega
        have b7 : (m7 : Int) < 64 := by omega
        have hnext : next b.data.toList (words b.data.toList k) k = s1 x2 + x7 + s0 x15 + x16 := by
          rw [← hx15, ← hx2, ← hx16, ← hx7]
          unfold next
          rw [if_neg (by omega), sofar_get _ _ _ (by omega), sofar_get _ _ _ (by omega), sofar_get _ _ _ (by omega), sofar_get _ _ _ (by omega)]
          rw [show k - 2 = m2 by omega, show k - 7 = m7 by omega, show k - 15 = m15 by omega, show k - 16 = m16 by omega]
        have y1 := bits_xor (rotr x15 7) (rotr x15 18)
        have y2 : bits .xor .u32 (u (rotr x15 7 ^^^ rotr x15 18)) (u (x15 >>> 3)) = u (s0 x15) := bits_xor (rotr x15 7 ^^^ rotr x15 18) (x15 >>> 3)
        have y3 := shr_3 x15
        have z1 := bits_xor (rotr x2 17) (rotr x2 19)
        have z2 : bits .xor .u32 (u (rotr x2 17 ^^^ rotr x2 19)) (u (x2 >>> 10)) = u (s1 x2) := bits_xor (rotr x2 17 ^^^ rotr x2 19) (x2 >>> 10)
        have z3 := shr_10 x2
        have a1 := wrap_add (s1 x2) x7
        have a2 := wrap_add (s1 x2 + x7) (s0 x15)
        have a3 := wrap_add (s1 x2 + x7 + s0 x15) x16
        have HN := Lib.hid hnext
        have X1 := Lib.hid hx15
        have X2 := Lib.hid hx2
        have X3 := Lib.hid hx16
        have X4 := Lib.hid hx7
        have X5 := Lib.hid h15
        have X6 := Lib.hid h2
        have X7 := Lib.hid hm16
        have X8 := Lib.hid h7
        have X9 := Lib.hid hlen
        clear hnext hx15 hx2 hx16 hx7 h15 h2 hm16 h7 hlen
        go_wp2_with fail
        go_quiet (fail)
        go_wp2_with fail
        refine (rot_any x15 7 _ (by omega) (by omega)).mono ?_
        rintro e w1 ⟨rfl, n1, rfl⟩
        go_wp2_with fail
        refine (rot_any x15 18 _ (by omega) (by omega)).mono ?_
        rintro e w1 ⟨rfl, n2, rfl⟩
        go_wp2_with fail
        refine (rot_any x2 17 _ (by omega) (by omega)).mono ?_
        rintro e w1 ⟨rfl, n3, rfl⟩
        go_wp2_with fail
        refine (rot_any x2 19 _ (by omega) (by omega)).mono ?_
        rintro e w1 ⟨rfl, n4, rfl⟩
        go_wp2_with fail
        have hS1 := hS.drewN (n := nq + n1 + n2 + n3 + n4)
        generalize wr.drewN (nq + n1 + n2 + n3 + n4) = w1 at *
        refine region_tail 15 (by kernel_rfl) (by kernel_rfl) ?_
        intro w2 hw2
        have hS2 := hS1.drew
        rw [← hw2] at hS2
        clear hw2 c15 c2 hS1 hS
        have c16 := hS2.row.cell m16 (by have := hS2.len; have := X7.out; omega)
        have c7 := hS2.row.cell m7 (by have := hS2.len; have := X8.out; omega)
        have cn := hS2.row.cell k (by have := hS2.len; omega)
        have hfree := hS2.row.free k
        rw [X3.out] at c16
        rw [X4.out] at c7
        simp only [List.take_succ_cons, List.take_zero, List.drop_succ_cons, List.drop_zero]
        repeat still_step
        try refine wpStill_nil ?_
        go_wp2_with fail
        go_roundw
        case rel =>
          refine ⟨k + 1, by omega, by go_num, ?_⟩
          have hs := hS2.store k (s1 x2 + x7 + s0 x15 + x16)
          rw [← HN.out, sofar_set _ _ (by omega)] at hs
          rw [← HN.out]
          exact hs
        case measure => simp [intOf]; omega
    · have hS := (show k = 64 by omega) ▸ hS
      have hd : decide ((k : Int) < 64) = false := decide_eq_false (by omega)
      rw [sofar_full] at hS
      have hl := words_len b.data.toList 64
      have HL := Lib.hid hl
      clear hl
      go_wp2_with (first
        | (refine wpList_load_row rfl 105 _ rfl (w.heap.size + 1) rfl 105 _ (0, 0) _ hS.row Try.underlying105 rfl (by rw [info105]; simp [Us, hS.len]) ?_)
        | (refine wpList_store_row rfl 105 _ _ rfl w.heap.size (Us (words b.data.toList 64)).toArray rfl rfl 105 _ hS.zero (by rw [info105]; simp [Us, hS.len]) (by simp [Us, hS.len]) (Us_all _) ?_))
      refine bodyPost_ret (v := .agg (Us (words b.data.toList 64)).toArray) (results_cell_row rfl _ _ w.heap.size 105 _ (0, 0) _ rfl (setRow_heap _ _ _ _ _ _ hS.zero) Try.underlying105 rfl (by rw [info105]; simp [Us, words_len])) rfl ⟨rfl, ?_⟩
      exact hS.below.trans ⟨rfl, rfl, rfl, by simp, fun j hj => setRow_other _ _ _ _ (by omega)⟩
end Go.Proofs.Ytjnbdikhajnciaa.Dig
