/- (*reader).cell walked. -/
import Derived.Test.YtjelpapcboiimaaUI
import Derived.Test.YtjelpapcboiimaaPCellPutsx2
import Derived.Lib.ConvBytes
import Derived.Laws.BitsAllLaws
namespace Go.Proofs.Ytjelpapcboiimaa.PCellPuts
open Go.RowKit Go.Proofs.Ytjelpapcboiimaa.Ord Go.Proofs.YtjelpapcboiimaaW.PrintWords Go.Proofs.YtjelpapcboiimaaW.PrintLast Go.Proofs.YtjelpapcboiimaaW.PrintMore
set_option linter.unusedVariables false
set_option linter.unusedSimpArgs false
attribute [local irreducible] OpGives
attribute [local go_sem] rdl_const rdl_func rdl_global rdl_nil rdl_cons

theorem ext0 (s : ByteArray) (p : Nat) (hp : p < s.size) (h : 0 < (s.extract p (p + 1)).size) : ((s.extract p (p + 1))[0]'h).toNat = byteAt s p := by
  have h1 : (s.extract p (p + 1)).data = s.data.extract p (p + 1) := by simp
  have h2 : p < s.data.size := hp
  have e : (s.extract p (p + 1))[0]'h = (s.extract p (p + 1)).data[0]'h := rfl
  rw [e]
  simp only [h1]
  unfold byteAt
  rw [Array.getElem_extract]
  simp [h2, Array.getElem?_eq_getElem h2]
theorem meth_number (v : Bool) (w : World) : (method 209 86 (.agg #[.bool v]) "fasti/cell.most").run Try.prog w = .ok (60, .agg #[.bool v]) w := by kernel_rfl
theorem meth_word (w : World) : (method 209 88 (.agg #[]) "fasti/cell.most").run Try.prog w = .ok (61, .agg #[]) w := by kernel_rfl
theorem meth_row (w : World) : (method 209 92 (.agg #[]) "fasti/cell.most").run Try.prog w = .ok (62, .agg #[]) w := by kernel_rfl
theorem ext_at (s : ByteArray) (p n j : Nat) (h : p + n ≤ s.size) (hj : j < n) : ((s.extract p (p + n)).data.toList.getD j 0).toNat = byteAt s (p + j) := by
  have h1 : (s.extract p (p + n)).data = s.data.extract p (p + n) := by simp
  have h2 : p + j < s.data.size := by have : s.data.size = s.size := rfl; omega
  rw [h1]
  unfold byteAt
  simp [List.getD_eq_getElem?_getD, Array.getElem?_extract, h2, hj]
theorem numAt_lt (s : ByteArray) (p : Nat) : ∀ n, numAt s p n < 256 ^ n
  | 0 => by simp [numAt]
  | n + 1 => by
    have := numAt_lt s p n
    have hb : byteAt s (p + n) < 256 := UInt8.toNat_lt _
    rw [numAt, Nat.pow_succ]; omega
theorem or_byte (s : ByteArray) (p j : Nat) (hj : j ≤ 7) : bits BinOp.or IntKind.u64 ((numAt s p j : Int) * 256) (byteAt s (p + j) : Int) = (numAt s p (j + 1) : Int) := by
  have h1 := numAt_lt s p j
  have h2 : 256 ^ j ≤ 256 ^ 7 := Nat.pow_le_pow_right (by decide) hj
  have h7 : (256 : Nat) ^ 7 = 72057594037927936 := by decide
  have hb : byteAt s (p + j) < 256 := UInt8.toNat_lt _
  have e := u64_or_nat (numAt s p j * 256) (byteAt s (p + j)) (by omega) (by omega)
  rw [Int.natCast_mul] at e
  rw [show ((numAt s p j : Int) * 256) = (numAt s p j : Int) * ((256 : Nat) : Int) by rfl, e, numAt]
  congr 1
  have := Nat.two_pow_add_eq_or_of_lt (i := 8) (b := byteAt s (p + j)) (by omega) (numAt s p j)
  rw [Nat.mul_comm (numAt s p j) 256]
  exact this.symm
theorem below_bytes (w : World) (e : TypeId) (s : ByteArray) : Below w.heap.size w (Lib.bytesWorld w e s) :=
  ⟨rfl, rfl, rfl, by rw [Lib.bytesWorld_size]; omega, fun k hk => Lib.bytesWorld_at_old w e s k hk⟩
theorem as_num (v : Bool) (W : World) : (Instr.typeAssert (.iface 86 (.agg #[.bool v])) 80 86 true).run Try.prog W = .ok (.tuple #[.agg #[.bool v], .bool true]) W := by kernel_rfl
theorem as_word1 (W : World) : (Instr.typeAssert (.iface 88 (.agg #[])) 80 86 true).run Try.prog W = .ok (.tuple #[.agg #[.bool false], .bool false]) W := by kernel_rfl
theorem as_word2 (W : World) : (Instr.typeAssert (.iface 88 (.agg #[])) 80 88 true).run Try.prog W = .ok (.tuple #[.agg #[], .bool true]) W := by kernel_rfl
theorem as_row1 (W : World) : (Instr.typeAssert (.iface 92 (.agg #[])) 80 86 true).run Try.prog W = .ok (.tuple #[.agg #[.bool false], .bool false]) W := by kernel_rfl
theorem as_row2 (W : World) : (Instr.typeAssert (.iface 92 (.agg #[])) 80 88 true).run Try.prog W = .ok (.tuple #[.agg #[], .bool false]) W := by kernel_rfl
theorem four_put {W : World} {g : Nat} {ty : TypeId} {a b c d : Value} (h : W.heap[g]? = some (.cells #[a, b, c, d] ty (0, 0))) (a' b' c' d' : Value) :
    ((((W.setCell ⟨g, 0, none⟩ a').setCell ⟨g, 1, none⟩ b').setCell ⟨g, 2, none⟩ c').setCell ⟨g, 3, none⟩ d').heap[g]? = some (.cells #[a', b', c', d'] ty (0, 0)) :=
  blk_put (cs := #[a', b', c', d]) (blk_put (cs := #[a', b', c, d]) (blk_put (cs := #[a', b, c, d]) (blk_put (cs := #[a, b, c, d]) h 0 _ rfl) 1 _ rfl) 2 _ rfl) 3 _ rfl
/-- The cell is laid into the result's variable. -/
theorem fin_cell {b : Nat} {s : ByteArray} {q : Nat} {w W : World} {base : Nat} {v : Value} {xs : List S25} (hb : b < w.heap.size) (hm : ModB b w W) (hr : RdAt b s q W) (hbase : w.heap.size < base)
    (hR : Kd.R k25 25 W base (fun k => k ≠ b) v xs) (u0 u1 u2 u3 : Value) :
    ModB b w ((((W.setCell ⟨w.heap.size, 0, none⟩ u0).setCell ⟨w.heap.size, 1, none⟩ u1).setCell ⟨w.heap.size, 2, none⟩ u2).setCell ⟨w.heap.size, 3, none⟩ u3) ∧
    RdAt b s q ((((W.setCell ⟨w.heap.size, 0, none⟩ u0).setCell ⟨w.heap.size, 1, none⟩ u1).setCell ⟨w.heap.size, 2, none⟩ u2).setCell ⟨w.heap.size, 3, none⟩ u3) ∧
    Kd.R k25 25 ((((W.setCell ⟨w.heap.size, 0, none⟩ u0).setCell ⟨w.heap.size, 1, none⟩ u1).setCell ⟨w.heap.size, 2, none⟩ u2).setCell ⟨w.heap.size, 3, none⟩ u3) w.heap.size (fun k => k ≠ b) v xs := by
  have h1 : Kd.R k25 25 W base (fun k => k ≠ b ∧ base ≤ k) v xs := Kd.R_mono (Kd.R_bound hR) (fun k hk => ⟨hk.1, hk.2.1⟩)
  have hne : ∀ k, (k ≠ b ∧ base ≤ k) → k ≠ w.heap.size := fun k hk => by omega
  have h2 := Kd.R_far (p := ⟨w.heap.size, 0, none⟩) h1 hne u0
  have h3 := Kd.R_far (p := ⟨w.heap.size, 1, none⟩) h2 hne u1
  have h4 := Kd.R_far (p := ⟨w.heap.size, 2, none⟩) h3 hne u2
  have h5 := Kd.R_far (p := ⟨w.heap.size, 3, none⟩) h4 hne u3
  exact ⟨(((hm.put _ (Nat.le_refl _) _ _).put _ (Nat.le_refl _) _ _).put _ (Nat.le_refl _) _ _).put _ (Nat.le_refl _) _ _,
    (((hr.put _ (by omega) _ _).put _ (by omega) _ _).put _ (by omega) _ _).put _ (by omega) _ _,
    Kd.R_mono (Kd.R_lower h5 (Nat.le_of_lt hbase)) (fun k hk => hk.1)⟩
theorem byteAt_lt (s : ByteArray) (p : Nat) : byteAt s p < 256 := UInt8.toNat_lt _
theorem firstV_bad {c : Nat} (h : c / 16 < 1 ∨ 4 < c / 16) : firstV c = .nilIface := by
  unfold firstV
  rw [if_neg (by omega), if_neg (by omega), if_neg (by omega), if_neg (by omega)]
set_option maxHeartbeats 16000000 in
set_option maxRecDepth 100000 in
theorem cell_step (d : Nat) (hd : d ≤ 40) (s : ByteArray) (hs : s.size ≤ 140737488355328) (b : Nat) (g : Nat → DR S25)
    (ih : 0 < d → ∀ (p : Nat) (w : World), RdAt b s p w → p ≤ s.size → Calls Try.prog 30 #[.pointer (some ⟨b, 0, none⟩), .int .i64 ((d : Int) - 1)] w (CellPost (g p) b s p w))
    (p : Nat) (w : World) (h : RdAt b s p w) (hp : p ≤ s.size) :
    Calls Try.prog 30 #[.pointer (some ⟨b, 0, none⟩), .int .i64 (d : Int)] w (CellPost (cellW s (decide (0 < d)) g p) b s p w) := by
  have hbl : b < w.heap.size := (Array.getElem?_eq_some_iff.1 h).1
  obtain ⟨W1, hW1⟩ : ∃ W1, W1 = w.alloc (.cells #[.int .i64 0, .int .i64 0, .string (⟨#[]⟩ : ByteArray), .slice none 0 0] 25) := ⟨_, rfl⟩
  have hn1 : Below w.heap.size w W1 := by rw [hW1]; exact (Below.refl _ _).alloc (Nat.le_refl _) _
  have hr1 := h.kept hn1
  have hn1' := hn1
  have hg1 : W1.heap[w.heap.size]? = some (.cells #[.int .i64 0, .int .i64 0, .string (⟨#[]⟩ : ByteArray), .slice none 0 0] 25 (0, 0)) := by rw [hW1]; exact heap_alloc_last _ _
  have HG1 := Lib.hid hg1
  have HBL := Lib.hid hbl
  have c1 : (w.alloc (.cells #[.int .i64 0, .int .i64 0, .string (⟨#[]⟩ : ByteArray), .slice none 0 0] 25)).cell? ⟨b, 1, none⟩ = some (.int .i64 (p : Int)) := by rw [← hW1, Lib.cell_of_heap hr1]; rfl
  have HR1 := Lib.hid hr1
  have HN1 := Lib.hid hn1
  have HW1 := Lib.hid hW1
  have hx : ∀ W, ModB b W1 W → ModB b w W := fun W hm => (ModB.of_below hn1').trans hm
  have HX := Lib.hid hx
  have HIH := Lib.hid ih
  have H := Lib.hid h
  clear h hr1 hn1 hW1 ih hx hn1' hg1
  obtain ⟨r, hr⟩ : ∃ r, r = cellW s (decide (0 < d)) g p := ⟨_, rfl⟩
  rw [← hr]
  unfold cellW at hr
  have HR := Lib.hid hr
  clear hr
  go_enter Try.func30, Try.ntmps30
  go_wp2_with fail
  rw [← HW1.out]
  by_cases hsh : s.size < p + 1
  · refine (bytes_no b s p 1 W1 HR1.out hs hp hsh (by decide)).mono ?_
    rintro e W2 ⟨rfl, _, hm⟩
    have e0 : r = .bad s.size 3 := by rw [HR.out, if_pos hsh]
    rw [e0]
    exact ⟨rfl, (ModB.of_below HN1.out).trans hm, rfl⟩
  · have hr := HR.out
    rw [if_neg hsh] at hr
    have HR2 := Lib.hid hr
    clear HR hr
    refine (bytes_ok b s p 1 W1 HR1.out hs (by omega)).mono ?_
    rintro e W2 ⟨rfl, hr2, hm2⟩
    have HRD2 := Lib.hid hr2
    have HM2 := Lib.hid hm2
    clear hr2 hm2 HR1
    go_wp2_with fail
    rw [ext0 s p (by omega)]
    have hc256 := byteAt_lt s p
    obtain ⟨c, hc⟩ : ∃ c, c = byteAt s p := ⟨_, rfl⟩
    rw [← hc] at hc256 ⊢
    have hr := HR2.out
    rw [← hc] at hr
    have HC := Lib.hid hc
    have HR := Lib.hid hr
    clear hc hr HR2
    refine (first_calls c W2 hc256).mono ?_
    rintro e W ⟨rfl, rfl⟩
    by_cases hbad : c / 16 < 1 ∨ 4 < c / 16
    · rw [firstV_bad hbad]
      go_wp2_with fail
      refine (need_no _ _ _).mono ?_
      rintro e W' ⟨rfl, rfl⟩
      have e0 : r = .bad p 4 := by rw [HR.out]; exact if_pos hbad
      rw [e0]
      exact ⟨rfl, HX.out _ HM2.out, rfl⟩
    · have hr := HR.out
      rw [if_neg hbad] at hr
      have HR3 := Lib.hid hr
      clear HR hr
      have hk : c / 16 = 1 ∨ c / 16 = 2 ∨ c / 16 = 3 ∨ c / 16 = 4 := by omega
      clear hbad
      have m1 := meth_number
      have m2 := meth_word
      have m3 := meth_row
      rcases hk with hk | hk | hk | hk
      · have hv : firstV c = .iface 86 (.agg #[.bool false]) := by unfold firstV; rw [if_pos hk]
        have hmost := most_number false
        have hw8 : widthOf (c / 16) = 8 := by rw [hk]; rfl
        have hm8 : mostOf (c / 16) = 9223372036854775807 := by rw [hk]; rfl
        rw [hv]
        have HMO := Lib.hid hmost
        clear hmost hv
        go_wp2_with fail
        refine (need_ok _ _ _).mono ?_
        rintro e W' ⟨rfl, rfl⟩
        go_wp2_with fail
        refine (HMO.out _).mono ?_
        rintro e W3 ⟨rfl, hb3⟩
        have hr3 := HRD2.out.kept hb3
        have hm3 := HM2.out.trans (ModB.of_below hb3)
        have HRD3 := Lib.hid hr3
        have HM3 := Lib.hid hm3
        have hsz3 := hb3.size
        clear hb3 hr3 hm3 HRD2 HM2 m1 m2 m3
        go_wp2_with fail
        obtain ⟨n, hn⟩ : ∃ n, n = c % 16 := ⟨_, rfl⟩
        rw [show (c : Int) % 16 = (n : Int) by omega]
        have hr := HR3.out
        rw [← hn, hw8, hm8] at hr
        have HR := Lib.hid hr
        have hn16 : n ≤ 15 := by omega
        have HN := Lib.hid hn
        have HW8 := Lib.hid hw8
        have HK := Lib.hid hk
        clear hr HR3 hn hw8 hm8 hk
        by_cases hwd : 8 < n
        · rw [decide_eq_false (by omega : ¬ (n : Int) ≤ 8)]
          refine (need_no _ _ _).mono ?_
          rintro e W' ⟨rfl, rfl⟩
          have e0 : r = .bad p 4 := by rw [HR.out]; exact if_pos hwd
          rw [e0]
          exact ⟨rfl, HX.out _ HM3.out, rfl⟩
        · rw [decide_eq_true (by omega : (n : Int) ≤ 8)]
          have hr := HR.out
          rw [if_neg hwd] at hr
          have HR := Lib.hid hr
          clear hr
          refine (need_ok _ _ _).mono ?_
          rintro e W' ⟨rfl, rfl⟩
          go_wp2_with fail
          by_cases hd0 : 0 < d
          · have hr := HR.out
            rw [if_neg (by rw [decide_eq_true hd0]; decide)] at hr
            have HR := Lib.hid hr
            clear hr
            rw [decide_eq_true hd0]
            refine (need_ok _ _ _).mono ?_
            rintro e W' ⟨rfl, rfl⟩
            go_wp2_with fail
            by_cases hsh2 : s.size < p + 1 + n
            · refine (bytes_no b s (p + 1) n W' HRD3.out hs (by omega) hsh2 (by omega)).mono ?_
              rintro e W4 ⟨rfl, _, hm⟩
              have e0 : r = .bad s.size 3 := by rw [HR.out]; exact if_pos hsh2
              rw [e0]
              exact ⟨rfl, HX.out _ (HM3.out.trans hm), rfl⟩
            · have hr := HR.out
              rw [if_neg hsh2] at hr
              have HR := Lib.hid hr
              clear hr
              refine (bytes_ok b s (p + 1) n W' HRD3.out hs (by omega)).mono ?_
              rintro e W4 ⟨rfl, hr4, hm4⟩
              have hm4 := HM3.out.trans hm4
              have HRD4 := Lib.hid hr4
              have HM4 := Lib.hid hm4
              clear hr4 hm4 HRD3 HM3
              go_wp2_with fail
              rw [Lib.run_convert_string_bytes (P := Try.prog) W4 9 55 5 (s.extract (p + 1) (p + 1 + n)) Try.underlying9 Try.underlying55 Try.underlying5]
              simp only [Result.andThen]
              rw [Oper.upon_value]
              have hxs : (s.extract (p + 1) (p + 1 + n)).size = n := by rw [ByteArray.size_extract]; omega
              obtain ⟨W5, hW5⟩ : ∃ W5, W5 = Lib.bytesWorld W4 5 (s.extract (p + 1) (p + 1 + n)) := ⟨_, rfl⟩
              obtain ⟨gc, hgc⟩ : ∃ gc, gc = grownCap W4 (s.extract (p + 1) (p + 1 + n)).size 0 5 := ⟨_, rfl⟩
              obtain ⟨gb, hgb⟩ : ∃ gb, gb = W4.heap.size := ⟨_, rfl⟩
              rw [← hgc, ← hW5, hxs, ← hgb]
              have hb5 : Below W4.heap.size W4 W5 := by rw [hW5]; exact below_bytes _ _ _
              have hcell : ∀ j, j < n → W5.cell? ⟨gb, j, none⟩ = some (.int .u8 (byteAt s (p + 1 + j) : Int)) := fun j hj => by
                rw [hW5, hgb, Lib.bytesWorld_cell _ _ _ _ (by omega), ext_at s (p + 1) n j (by omega) hj]
              have hr5 := HRD4.out.kept hb5
              have hm5 := HM4.out.trans (ModB.of_below hb5)
              have hsz5 := Nat.le_trans (HM4.out.size) hb5.size
              have HCELL := Lib.hid hcell
              have HRD5 := Lib.hid hr5
              have HM5 := Lib.hid hm5
              clear hxs hW5 hgc hb5 hcell hr5 hm5 HRD4 HM4 hgb
              go_wp2_with fail
              go_loopw [11, 52] (fun k i wr => ∃ j : Nat, j ≤ n ∧ i = .int .i64 (j : Int) ∧ k = .int .u64 (numAt s (p + 1) j : Int) ∧ (0 < j → byteAt s (p + 1) ≠ 0) ∧ W5 = wr) (fun _ i _ => n - (intOf i).toNat)
              case atStart => exact ⟨0, Nat.zero_le _, rfl, rfl, fun h => absurd h (by decide), rfl⟩
              case round =>
                obtain ⟨j, hj, rfl, rfl, hnz, rfl⟩ := hrel
                by_cases hjn : j < n
                · have cj := HCELL.out j hjn
                  have hcl := byteAt_lt s (p + 1 + j)
                  have hnl := numAt_lt s (p + 1) j
                  have hor := or_byte s (p + 1) j (by omega)
                  obtain ⟨bj, hbj⟩ : ∃ bj, bj = byteAt s (p + 1 + j) := ⟨_, rfl⟩
                  obtain ⟨nj, hnj⟩ : ∃ nj, nj = numAt s (p + 1) j := ⟨_, rfl⟩
                  rw [← hbj] at cj hcl hor
                  rw [← hnj] at hnl hor ⊢
                  have hnl64 : nj * 256 + 255 < 18446744073709551616 := by
                    have : 256 ^ j ≤ 256 ^ 7 := Nat.pow_le_pow_right (by decide) (by omega)
                    have h7 : (256 : Nat) ^ 7 = 72057594037927936 := by decide
                    omega
                  have HBJ := Lib.hid hbj
                  have HNJ := Lib.hid hnj
                  have HOR := Lib.hid hor
                  clear hbj hnj hor
                  by_cases hj0 : 0 < j
                  · go_wp2_with fail
                    refine (need_ok _ _ _).mono ?_
                    rintro e W' ⟨rfl, rfl⟩
                    go_wp2_with fail
                    go_roundw
                    case rel => exact ⟨j + 1, by omega, by go_num, by rw [HOR.out], by have := HBJ.out; have := hnz; intro _; exact hnz hj0, trivial⟩
                    case measure => simp [intOf]; omega
                  · have hj00 : j = 0 := by omega
                    have hbz : bj = byteAt s (p + 1) := by rw [HBJ.out, hj00, Nat.add_zero]
                    have HBZ := Lib.hid hbz
                    clear hj00 hbz
                    by_cases hb0 : 0 < bj
                    · go_wp2_with fail
                      refine (need_ok _ _ _).mono ?_
                      rintro e W' ⟨rfl, rfl⟩
                      go_wp2_with fail
                      go_roundw
                      case rel => exact ⟨j + 1, by omega, by go_num, by rw [HOR.out], by have := HBJ.out; have := hnz; intro _; have := HBZ.out; omega, trivial⟩
                      case measure => simp [intOf]; omega
                    · have e0 : r = .bad p 4 := by rw [HR.out]; exact if_pos ⟨by omega, by have := HBZ.out; omega⟩
                      go_wp2_with fail
                      refine (need_no _ _ _).mono ?_
                      rintro e W' ⟨rfl, rfl⟩
                      subst e0
                      exact ⟨rfl, HX.out _ HM5.out, rfl⟩
                · have hjn' : j = n := by omega
                  have hr := HR.out
                  rw [if_neg (by rintro ⟨h1, h2⟩; exact hnz (by omega) h2)] at hr
                  have HR := Lib.hid hr
                  have HJN := Lib.hid hjn'
                  clear hr hjn'
                  obtain ⟨kk, hkk⟩ : ∃ kk, kk = numAt s (p + 1) j := ⟨_, rfl⟩
                  rw [← hkk]
                  have HKK := Lib.hid hkk
                  clear hkk
                  go_wp2_with fail
                  have hr := HR.out
                  rw [show numAt s (p + 1) n = kk by rw [HKK.out, HJN.out]] at hr
                  have HR := Lib.hid hr
                  clear hr
                  by_cases hmx : 9223372036854775807 < kk
                  · have e0 : r = .bad p 4 := by rw [HR.out]; exact if_pos hmx
                    rw [decide_eq_false (by omega : ¬ (kk : Int) ≤ 9223372036854775807)]
                    refine (need_no _ _ _).mono ?_
                    rintro e W' ⟨rfl, rfl⟩
                    subst e0
                    exact ⟨rfl, HX.out _ HM5.out, rfl⟩
                  · have hr := HR.out
                    rw [if_neg hmx] at hr
                    have HR := Lib.hid hr
                    clear hr
                    rw [decide_eq_true (by omega : (kk : Int) ≤ 9223372036854775807)]
                    refine (need_ok _ _ _).mono ?_
                    rintro e W' ⟨rfl, rfl⟩
                    have hnot : bits BinOp.xor IntKind.i64 (-1) (kk : Int) = -1 - (kk : Int) := i64_not kk (by omega)
                    have q1 := as_num
                    have q2 := as_word1
                    have q3 := as_word2
                    have q4 := as_row1
                    have q5 := as_row2
                    go_wp2_with fail
                    have hx6 : Below W'.heap.size W' (W'.alloc (.cells #[.bool false] 86)) := (Below.refl _ _).alloc (Nat.le_refl _) _
                    obtain ⟨W6, hW6⟩ : ∃ W6, W6 = W'.alloc (.cells #[.bool false] 86) := ⟨_, rfl⟩
                    rw [← hW6] at hx6 ⊢
                    clear hW6 q1 q2 q3 q4 q5
                    refine (cell_Num.calls (kk : Int) 1 (kk : Int) ⟨#[]⟩ [] W6 rfl).mono ?_
                    rintro e W7 ⟨v3, rfl, hR7, hb7⟩
                    have hbb := hx6.trans (hb7.mono hx6.size)
                    have hm7 := HM5.out.trans (ModB.of_below hbb)
                    have hr7 := HRD5.out.kept hbb
                    obtain ⟨A3, c3, rfl⟩ := R_slice hR7
                    have hg7 := (hm7.block _ (Array.getElem?_eq_some_iff.1 HG1.out).1 (by have := HBL.out; omega)).trans HG1.out
                    have z0 : W7.cell? ⟨w.heap.size, 0, none⟩ = some (.int .i64 0) := by rw [Lib.cell_of_heap hg7]; rfl
                    have z1 : W7.cell? ⟨w.heap.size, 1, none⟩ = some (.int .i64 0) := by rw [Lib.cell_of_heap hg7]; rfl
                    have z2 : W7.cell? ⟨w.heap.size, 2, none⟩ = some (.string (⟨#[]⟩ : ByteArray)) := by rw [Lib.cell_of_heap hg7]; rfl
                    have z3 : W7.cell? ⟨w.heap.size, 3, none⟩ = some (.slice none 0 0) := by rw [Lib.cell_of_heap hg7]; rfl
                    have f0 := Lib.frozen_of_heap hg7 0
                    have f1 := Lib.frozen_of_heap hg7 1
                    have f2 := Lib.frozen_of_heap hg7 2
                    have f3 := Lib.frozen_of_heap hg7 3
                    have HG7 := Lib.hid hg7
                    have HM7 := Lib.hid hm7
                    have HR7 := Lib.hid hr7
                    have HRR := Lib.hid hR7
                    have hsz6 : w.heap.size < W6.heap.size := by have := (Array.getElem?_eq_some_iff.1 HG1.out).1; have := HM5.out.size; have := hx6.size; omega
                    have HSZ6 := Lib.hid hsz6
                    clear hg7 hm7 hr7 hR7 hbb hx6 hb7 hsz6
                    go_wp2_with fail
                    obtain ⟨e1, e2, e3⟩ := fin_cell HBL.out (HX.out _ HM7.out) HR7.out HSZ6.out (Kd.R_mono (Kd.R_bound HRR.out) (fun k hk => by have := HBL.out; have := HSZ6.out; omega)) (.int .i64 1) (.int .i64 (kk : Int)) (.string (⟨#[]⟩ : ByteArray)) (.slice A3 0 c3)
                    have e0 : r = .ok ⟨1, (kk : Int), ⟨#[]⟩, []⟩ (p + 1 + n) := by rw [HR.out]; exact if_pos HK.out
                    refine bodyPost_ret (results_cell_row rfl _ _ w.heap.size 25 #[.int .i64 1, .int .i64 (kk : Int), .string (⟨#[]⟩ : ByteArray), .slice A3 0 c3] (0, 0) _ rfl (four_put HG7.out _ _ _ _) Try.underlying25 rfl (by kernel_rfl)) rfl ?_
                    rw [e0]
                    exact ⟨e1, ⟨_, rfl, e3⟩, e2, by omega, by omega⟩
          · have e0 : r = .bad p 5 := by rw [HR.out]; exact if_pos (by rw [decide_eq_false hd0])
            rw [decide_eq_false hd0]
            refine (need_no _ _ _).mono ?_
            rintro e W' ⟨rfl, rfl⟩
            rw [e0]
            exact ⟨rfl, HX.out _ HM3.out, rfl⟩
      · have hv : firstV c = .iface 86 (.agg #[.bool true]) := by unfold firstV; rw [if_neg (by omega), if_pos hk]
        have hmost := most_number true
        have hw8 : widthOf (c / 16) = 8 := by rw [hk]; rfl
        have hm8 : mostOf (c / 16) = 9223372036854775807 := by rw [hk]; rfl
        rw [hv]
        have HMO := Lib.hid hmost
        clear hmost hv
        go_wp2_with fail
        refine (need_ok _ _ _).mono ?_
        rintro e W' ⟨rfl, rfl⟩
        go_wp2_with fail
        refine (HMO.out _).mono ?_
        rintro e W3 ⟨rfl, hb3⟩
        have hr3 := HRD2.out.kept hb3
        have hm3 := HM2.out.trans (ModB.of_below hb3)
        have HRD3 := Lib.hid hr3
        have HM3 := Lib.hid hm3
        have hsz3 := hb3.size
        clear hb3 hr3 hm3 HRD2 HM2 m1 m2 m3
        go_wp2_with fail
        obtain ⟨n, hn⟩ : ∃ n, n = c % 16 := ⟨_, rfl⟩
        rw [show (c : Int) % 16 = (n : Int) by omega]
        have hr := HR3.out
        rw [← hn, hw8, hm8] at hr
        have HR := Lib.hid hr
        have hn16 : n ≤ 15 := by omega
        have HN := Lib.hid hn
        have HW8 := Lib.hid hw8
        have HK := Lib.hid hk
        clear hr HR3 hn hw8 hm8 hk
        by_cases hwd : 8 < n
        · rw [decide_eq_false (by omega : ¬ (n : Int) ≤ 8)]
          refine (need_no _ _ _).mono ?_
          rintro e W' ⟨rfl, rfl⟩
          have e0 : r = .bad p 4 := by rw [HR.out]; exact if_pos hwd
          rw [e0]
          exact ⟨rfl, HX.out _ HM3.out, rfl⟩
        · rw [decide_eq_true (by omega : (n : Int) ≤ 8)]
          have hr := HR.out
          rw [if_neg hwd] at hr
          have HR := Lib.hid hr
          clear hr
          refine (need_ok _ _ _).mono ?_
          rintro e W' ⟨rfl, rfl⟩
          go_wp2_with fail
          by_cases hd0 : 0 < d
          · have hr := HR.out
            rw [if_neg (by rw [decide_eq_true hd0]; decide)] at hr
            have HR := Lib.hid hr
            clear hr
            rw [decide_eq_true hd0]
            refine (need_ok _ _ _).mono ?_
            rintro e W' ⟨rfl, rfl⟩
            go_wp2_with fail
            by_cases hsh2 : s.size < p + 1 + n
            · refine (bytes_no b s (p + 1) n W' HRD3.out hs (by omega) hsh2 (by omega)).mono ?_
              rintro e W4 ⟨rfl, _, hm⟩
              have e0 : r = .bad s.size 3 := by rw [HR.out]; exact if_pos hsh2
              rw [e0]
              exact ⟨rfl, HX.out _ (HM3.out.trans hm), rfl⟩
            · have hr := HR.out
              rw [if_neg hsh2] at hr
              have HR := Lib.hid hr
              clear hr
              refine (bytes_ok b s (p + 1) n W' HRD3.out hs (by omega)).mono ?_
              rintro e W4 ⟨rfl, hr4, hm4⟩
              have hm4 := HM3.out.trans hm4
              have HRD4 := Lib.hid hr4
              have HM4 := Lib.hid hm4
              clear hr4 hm4 HRD3 HM3
              go_wp2_with fail
              rw [Lib.run_convert_string_bytes (P := Try.prog) W4 9 55 5 (s.extract (p + 1) (p + 1 + n)) Try.underlying9 Try.underlying55 Try.underlying5]
              simp only [Result.andThen]
              rw [Oper.upon_value]
              have hxs : (s.extract (p + 1) (p + 1 + n)).size = n := by rw [ByteArray.size_extract]; omega
              obtain ⟨W5, hW5⟩ : ∃ W5, W5 = Lib.bytesWorld W4 5 (s.extract (p + 1) (p + 1 + n)) := ⟨_, rfl⟩
              obtain ⟨gc, hgc⟩ : ∃ gc, gc = grownCap W4 (s.extract (p + 1) (p + 1 + n)).size 0 5 := ⟨_, rfl⟩
              obtain ⟨gb, hgb⟩ : ∃ gb, gb = W4.heap.size := ⟨_, rfl⟩
              rw [← hgc, ← hW5, hxs, ← hgb]
              have hb5 : Below W4.heap.size W4 W5 := by rw [hW5]; exact below_bytes _ _ _
              have hcell : ∀ j, j < n → W5.cell? ⟨gb, j, none⟩ = some (.int .u8 (byteAt s (p + 1 + j) : Int)) := fun j hj => by
                rw [hW5, hgb, Lib.bytesWorld_cell _ _ _ _ (by omega), ext_at s (p + 1) n j (by omega) hj]
              have hr5 := HRD4.out.kept hb5
              have hm5 := HM4.out.trans (ModB.of_below hb5)
              have hsz5 := Nat.le_trans (HM4.out.size) hb5.size
              have HCELL := Lib.hid hcell
              have HRD5 := Lib.hid hr5
              have HM5 := Lib.hid hm5
              clear hxs hW5 hgc hb5 hcell hr5 hm5 HRD4 HM4 hgb
              go_wp2_with fail
              go_loopw [11, 52] (fun k i wr => ∃ j : Nat, j ≤ n ∧ i = .int .i64 (j : Int) ∧ k = .int .u64 (numAt s (p + 1) j : Int) ∧ (0 < j → byteAt s (p + 1) ≠ 0) ∧ W5 = wr) (fun _ i _ => n - (intOf i).toNat)
              case atStart => exact ⟨0, Nat.zero_le _, rfl, rfl, fun h => absurd h (by decide), rfl⟩
              case round =>
                obtain ⟨j, hj, rfl, rfl, hnz, rfl⟩ := hrel
                by_cases hjn : j < n
                · have cj := HCELL.out j hjn
                  have hcl := byteAt_lt s (p + 1 + j)
                  have hnl := numAt_lt s (p + 1) j
                  have hor := or_byte s (p + 1) j (by omega)
                  obtain ⟨bj, hbj⟩ : ∃ bj, bj = byteAt s (p + 1 + j) := ⟨_, rfl⟩
                  obtain ⟨nj, hnj⟩ : ∃ nj, nj = numAt s (p + 1) j := ⟨_, rfl⟩
                  rw [← hbj] at cj hcl hor
                  rw [← hnj] at hnl hor ⊢
                  have hnl64 : nj * 256 + 255 < 18446744073709551616 := by
                    have : 256 ^ j ≤ 256 ^ 7 := Nat.pow_le_pow_right (by decide) (by omega)
                    have h7 : (256 : Nat) ^ 7 = 72057594037927936 := by decide
                    omega
                  have HBJ := Lib.hid hbj
                  have HNJ := Lib.hid hnj
                  have HOR := Lib.hid hor
                  clear hbj hnj hor
                  by_cases hj0 : 0 < j
                  · go_wp2_with fail
                    refine (need_ok _ _ _).mono ?_
                    rintro e W' ⟨rfl, rfl⟩
                    go_wp2_with fail
                    go_roundw
                    case rel => exact ⟨j + 1, by omega, by go_num, by rw [HOR.out], by have := HBJ.out; have := hnz; intro _; exact hnz hj0, trivial⟩
                    case measure => simp [intOf]; omega
                  · have hj00 : j = 0 := by omega
                    have hbz : bj = byteAt s (p + 1) := by rw [HBJ.out, hj00, Nat.add_zero]
                    have HBZ := Lib.hid hbz
                    clear hj00 hbz
                    by_cases hb0 : 0 < bj
                    · go_wp2_with fail
                      refine (need_ok _ _ _).mono ?_
                      rintro e W' ⟨rfl, rfl⟩
                      go_wp2_with fail
                      go_roundw
                      case rel => exact ⟨j + 1, by omega, by go_num, by rw [HOR.out], by have := HBJ.out; have := hnz; intro _; have := HBZ.out; omega, trivial⟩
                      case measure => simp [intOf]; omega
                    · have e0 : r = .bad p 4 := by rw [HR.out]; exact if_pos ⟨by omega, by have := HBZ.out; omega⟩
                      go_wp2_with fail
                      refine (need_no _ _ _).mono ?_
                      rintro e W' ⟨rfl, rfl⟩
                      subst e0
                      exact ⟨rfl, HX.out _ HM5.out, rfl⟩
                · have hjn' : j = n := by omega
                  have hr := HR.out
                  rw [if_neg (by rintro ⟨h1, h2⟩; exact hnz (by omega) h2)] at hr
                  have HR := Lib.hid hr
                  have HJN := Lib.hid hjn'
                  clear hr hjn'
                  obtain ⟨kk, hkk⟩ : ∃ kk, kk = numAt s (p + 1) j := ⟨_, rfl⟩
                  rw [← hkk]
                  have HKK := Lib.hid hkk
                  clear hkk
                  go_wp2_with fail
                  have hr := HR.out
                  rw [show numAt s (p + 1) n = kk by rw [HKK.out, HJN.out]] at hr
                  have HR := Lib.hid hr
                  clear hr
                  by_cases hmx : 9223372036854775807 < kk
                  · have e0 : r = .bad p 4 := by rw [HR.out]; exact if_pos hmx
                    rw [decide_eq_false (by omega : ¬ (kk : Int) ≤ 9223372036854775807)]
                    refine (need_no _ _ _).mono ?_
                    rintro e W' ⟨rfl, rfl⟩
                    subst e0
                    exact ⟨rfl, HX.out _ HM5.out, rfl⟩
                  · have hr := HR.out
                    rw [if_neg hmx] at hr
                    have HR := Lib.hid hr
                    clear hr
                    rw [decide_eq_true (by omega : (kk : Int) ≤ 9223372036854775807)]
                    refine (need_ok _ _ _).mono ?_
                    rintro e W' ⟨rfl, rfl⟩
                    have hnot : bits BinOp.xor IntKind.i64 (-1) (kk : Int) = -1 - (kk : Int) := i64_not kk (by omega)
                    have q1 := as_num
                    have q2 := as_word1
                    have q3 := as_word2
                    have q4 := as_row1
                    have q5 := as_row2
                    go_wp2_with fail
                    have hx6 : Below W'.heap.size W' (W'.alloc (.cells #[.bool true] 86)) := (Below.refl _ _).alloc (Nat.le_refl _) _
                    obtain ⟨W6, hW6⟩ : ∃ W6, W6 = W'.alloc (.cells #[.bool true] 86) := ⟨_, rfl⟩
                    rw [← hW6] at hx6 ⊢
                    clear hW6 q1 q2 q3 q4 q5
                    refine (cell_Num.calls (-1 - (kk : Int)) 1 (-1 - (kk : Int)) ⟨#[]⟩ [] W6 rfl).mono ?_
                    rintro e W7 ⟨v3, rfl, hR7, hb7⟩
                    have hbb := hx6.trans (hb7.mono hx6.size)
                    have hm7 := HM5.out.trans (ModB.of_below hbb)
                    have hr7 := HRD5.out.kept hbb
                    obtain ⟨A3, c3, rfl⟩ := R_slice hR7
                    have hg7 := (hm7.block _ (Array.getElem?_eq_some_iff.1 HG1.out).1 (by have := HBL.out; omega)).trans HG1.out
                    have z0 : W7.cell? ⟨w.heap.size, 0, none⟩ = some (.int .i64 0) := by rw [Lib.cell_of_heap hg7]; rfl
                    have z1 : W7.cell? ⟨w.heap.size, 1, none⟩ = some (.int .i64 0) := by rw [Lib.cell_of_heap hg7]; rfl
                    have z2 : W7.cell? ⟨w.heap.size, 2, none⟩ = some (.string (⟨#[]⟩ : ByteArray)) := by rw [Lib.cell_of_heap hg7]; rfl
                    have z3 : W7.cell? ⟨w.heap.size, 3, none⟩ = some (.slice none 0 0) := by rw [Lib.cell_of_heap hg7]; rfl
                    have f0 := Lib.frozen_of_heap hg7 0
                    have f1 := Lib.frozen_of_heap hg7 1
                    have f2 := Lib.frozen_of_heap hg7 2
                    have f3 := Lib.frozen_of_heap hg7 3
                    have HG7 := Lib.hid hg7
                    have HM7 := Lib.hid hm7
                    have HR7 := Lib.hid hr7
                    have HRR := Lib.hid hR7
                    have hsz6 : w.heap.size < W6.heap.size := by have := (Array.getElem?_eq_some_iff.1 HG1.out).1; have := HM5.out.size; have := hx6.size; omega
                    have HSZ6 := Lib.hid hsz6
                    clear hg7 hm7 hr7 hR7 hbb hx6 hb7 hsz6
                    go_wp2_with fail
                    obtain ⟨e1, e2, e3⟩ := fin_cell HBL.out (HX.out _ HM7.out) HR7.out HSZ6.out (Kd.R_mono (Kd.R_bound HRR.out) (fun k hk => by have := HBL.out; have := HSZ6.out; omega)) (.int .i64 1) (.int .i64 (-1 - (kk : Int))) (.string (⟨#[]⟩ : ByteArray)) (.slice A3 0 c3)
                    have e0 : r = .ok ⟨1, -1 - (kk : Int), ⟨#[]⟩, []⟩ (p + 1 + n) := by rw [HR.out]; rw [if_neg (by have := HK.out; omega)]; exact if_pos HK.out
                    refine bodyPost_ret (results_cell_row rfl _ _ w.heap.size 25 #[.int .i64 1, .int .i64 (-1 - (kk : Int)), .string (⟨#[]⟩ : ByteArray), .slice A3 0 c3] (0, 0) _ rfl (four_put HG7.out _ _ _ _) Try.underlying25 rfl (by kernel_rfl)) rfl ?_
                    rw [e0]
                    exact ⟨e1, ⟨_, rfl, e3⟩, e2, by omega, by omega⟩
          · have e0 : r = .bad p 5 := by rw [HR.out]; exact if_pos (by rw [decide_eq_false hd0])
            rw [decide_eq_false hd0]
            refine (need_no _ _ _).mono ?_
            rintro e W' ⟨rfl, rfl⟩
            rw [e0]
            exact ⟨rfl, HX.out _ HM3.out, rfl⟩
      · have hv : firstV c = .iface 88 (.agg #[]) := by unfold firstV; rw [if_neg (by omega), if_neg (by omega), if_pos hk]
        have hmost := most_word
        have hw8 : widthOf (c / 16) = 2 := by rw [hk]; rfl
        have hm8 : mostOf (c / 16) = 65535 := by rw [hk]; rfl
        rw [hv]
        have HMO := Lib.hid hmost
        clear hmost hv
        go_wp2_with fail
        refine (need_ok _ _ _).mono ?_
        rintro e W' ⟨rfl, rfl⟩
        go_wp2_with fail
        refine (HMO.out _).mono ?_
        rintro e W3 ⟨rfl, hb3⟩
        have hr3 := HRD2.out.kept hb3
        have hm3 := HM2.out.trans (ModB.of_below hb3)
        have HRD3 := Lib.hid hr3
        have HM3 := Lib.hid hm3
        have hsz3 := hb3.size
        clear hb3 hr3 hm3 HRD2 HM2 m1 m2 m3
        go_wp2_with fail
        obtain ⟨n, hn⟩ : ∃ n, n = c % 16 := ⟨_, rfl⟩
        rw [show (c : Int) % 16 = (n : Int) by omega]
        have hr := HR3.out
        rw [← hn, hw8, hm8] at hr
        have HR := Lib.hid hr
        have hn16 : n ≤ 15 := by omega
        have HN := Lib.hid hn
        have HW8 := Lib.hid hw8
        have HK := Lib.hid hk
        clear hr HR3 hn hw8 hm8 hk
        by_cases hwd : 2 < n
        · rw [decide_eq_false (by omega : ¬ (n : Int) ≤ 2)]
          refine (need_no _ _ _).mono ?_
          rintro e W' ⟨rfl, rfl⟩
          have e0 : r = .bad p 4 := by rw [HR.out]; exact if_pos hwd
          rw [e0]
          exact ⟨rfl, HX.out _ HM3.out, rfl⟩
        · rw [decide_eq_true (by omega : (n : Int) ≤ 2)]
          have hr := HR.out
          rw [if_neg hwd] at hr
          have HR := Lib.hid hr
          clear hr
          refine (need_ok _ _ _).mono ?_
          rintro e W' ⟨rfl, rfl⟩
          go_wp2_with fail
          by_cases hd0 : 0 < d
          · have hr := HR.out
            rw [if_neg (by rw [decide_eq_true hd0]; decide)] at hr
            have HR := Lib.hid hr
            clear hr
            rw [decide_eq_true hd0]
            refine (need_ok _ _ _).mono ?_
            rintro e W' ⟨rfl, rfl⟩
            go_wp2_with fail
            by_cases hsh2 : s.size < p + 1 + n
            · refine (bytes_no b s (p + 1) n W' HRD3.out hs (by omega) hsh2 (by omega)).mono ?_
              rintro e W4 ⟨rfl, _, hm⟩
              have e0 : r = .bad s.size 3 := by rw [HR.out]; exact if_pos hsh2
              rw [e0]
              exact ⟨rfl, HX.out _ (HM3.out.trans hm), rfl⟩
            · have hr := HR.out
              rw [if_neg hsh2] at hr
              have HR := Lib.hid hr
              clear hr
              refine (bytes_ok b s (p + 1) n W' HRD3.out hs (by omega)).mono ?_
              rintro e W4 ⟨rfl, hr4, hm4⟩
              have hm4 := HM3.out.trans hm4
              have HRD4 := Lib.hid hr4
              have HM4 := Lib.hid hm4
              clear hr4 hm4 HRD3 HM3
              go_wp2_with fail
              rw [Lib.run_convert_string_bytes (P := Try.prog) W4 9 55 5 (s.extract (p + 1) (p + 1 + n)) Try.underlying9 Try.underlying55 Try.underlying5]
              simp only [Result.andThen]
              rw [Oper.upon_value]
              have hxs : (s.extract (p + 1) (p + 1 + n)).size = n := by rw [ByteArray.size_extract]; omega
              obtain ⟨W5, hW5⟩ : ∃ W5, W5 = Lib.bytesWorld W4 5 (s.extract (p + 1) (p + 1 + n)) := ⟨_, rfl⟩
              obtain ⟨gc, hgc⟩ : ∃ gc, gc = grownCap W4 (s.extract (p + 1) (p + 1 + n)).size 0 5 := ⟨_, rfl⟩
              obtain ⟨gb, hgb⟩ : ∃ gb, gb = W4.heap.size := ⟨_, rfl⟩
              rw [← hgc, ← hW5, hxs, ← hgb]
              have hb5 : Below W4.heap.size W4 W5 := by rw [hW5]; exact below_bytes _ _ _
              have hcell : ∀ j, j < n → W5.cell? ⟨gb, j, none⟩ = some (.int .u8 (byteAt s (p + 1 + j) : Int)) := fun j hj => by
                rw [hW5, hgb, Lib.bytesWorld_cell _ _ _ _ (by omega), ext_at s (p + 1) n j (by omega) hj]
              have hr5 := HRD4.out.kept hb5
              have hm5 := HM4.out.trans (ModB.of_below hb5)
              have hsz5 := Nat.le_trans (HM4.out.size) hb5.size
              have HCELL := Lib.hid hcell
              have HRD5 := Lib.hid hr5
              have HM5 := Lib.hid hm5
              clear hxs hW5 hgc hb5 hcell hr5 hm5 HRD4 HM4 hgb
              go_wp2_with fail
              go_loopw [11, 52] (fun k i wr => ∃ j : Nat, j ≤ n ∧ i = .int .i64 (j : Int) ∧ k = .int .u64 (numAt s (p + 1) j : Int) ∧ (0 < j → byteAt s (p + 1) ≠ 0) ∧ W5 = wr) (fun _ i _ => n - (intOf i).toNat)
              case atStart => exact ⟨0, Nat.zero_le _, rfl, rfl, fun h => absurd h (by decide), rfl⟩
              case round =>
                obtain ⟨j, hj, rfl, rfl, hnz, rfl⟩ := hrel
                by_cases hjn : j < n
                · have cj := HCELL.out j hjn
                  have hcl := byteAt_lt s (p + 1 + j)
                  have hnl := numAt_lt s (p + 1) j
                  have hor := or_byte s (p + 1) j (by omega)
                  obtain ⟨bj, hbj⟩ : ∃ bj, bj = byteAt s (p + 1 + j) := ⟨_, rfl⟩
                  obtain ⟨nj, hnj⟩ : ∃ nj, nj = numAt s (p + 1) j := ⟨_, rfl⟩
                  rw [← hbj] at cj hcl hor
                  rw [← hnj] at hnl hor ⊢
                  have hnl64 : nj * 256 + 255 < 18446744073709551616 := by
                    have : 256 ^ j ≤ 256 ^ 7 := Nat.pow_le_pow_right (by decide) (by omega)
                    have h7 : (256 : Nat) ^ 7 = 72057594037927936 := by decide
                    omega
                  have HBJ := Lib.hid hbj
                  have HNJ := Lib.hid hnj
                  have HOR := Lib.hid hor
                  clear hbj hnj hor
                  by_cases hj0 : 0 < j
                  · go_wp2_with fail
                    refine (need_ok _ _ _).mono ?_
                    rintro e W' ⟨rfl, rfl⟩
                    go_wp2_with fail
                    go_roundw
                    case rel => exact ⟨j + 1, by omega, by go_num, by rw [HOR.out], by have := HBJ.out; have := hnz; intro _; exact hnz hj0, trivial⟩
                    case measure => simp [intOf]; omega
                  · have hj00 : j = 0 := by omega
                    have hbz : bj = byteAt s (p + 1) := by rw [HBJ.out, hj00, Nat.add_zero]
                    have HBZ := Lib.hid hbz
                    clear hj00 hbz
                    by_cases hb0 : 0 < bj
                    · go_wp2_with fail
                      refine (need_ok _ _ _).mono ?_
                      rintro e W' ⟨rfl, rfl⟩
                      go_wp2_with fail
                      go_roundw
                      case rel => exact ⟨j + 1, by omega, by go_num, by rw [HOR.out], by have := HBJ.out; have := hnz; intro _; have := HBZ.out; omega, trivial⟩
                      case measure => simp [intOf]; omega
                    · have e0 : r = .bad p 4 := by rw [HR.out]; exact if_pos ⟨by omega, by have := HBZ.out; omega⟩
                      go_wp2_with fail
                      refine (need_no _ _ _).mono ?_
                      rintro e W' ⟨rfl, rfl⟩
                      subst e0
                      exact ⟨rfl, HX.out _ HM5.out, rfl⟩
                · have hjn' : j = n := by omega
                  have hr := HR.out
                  rw [if_neg (by rintro ⟨h1, h2⟩; exact hnz (by omega) h2)] at hr
                  have HR := Lib.hid hr
                  have HJN := Lib.hid hjn'
                  clear hr hjn'
                  obtain ⟨kk, hkk⟩ : ∃ kk, kk = numAt s (p + 1) j := ⟨_, rfl⟩
                  rw [← hkk]
                  have HKK := Lib.hid hkk
                  clear hkk
                  go_wp2_with fail
                  have hr := HR.out
                  rw [show numAt s (p + 1) n = kk by rw [HKK.out, HJN.out]] at hr
                  have HR := Lib.hid hr
                  clear hr
                  by_cases hmx : 65535 < kk
                  · have e0 : r = .bad p 4 := by rw [HR.out]; exact if_pos hmx
                    rw [decide_eq_false (by omega : ¬ (kk : Int) ≤ 65535)]
                    refine (need_no _ _ _).mono ?_
                    rintro e W' ⟨rfl, rfl⟩
                    subst e0
                    exact ⟨rfl, HX.out _ HM5.out, rfl⟩
                  · have hr := HR.out
                    rw [if_neg hmx] at hr
                    have HR := Lib.hid hr
                    clear hr
                    rw [decide_eq_true (by omega : (kk : Int) ≤ 65535)]
                    refine (need_ok _ _ _).mono ?_
                    rintro e W' ⟨rfl, rfl⟩
                    have hnot : bits BinOp.xor IntKind.i64 (-1) (kk : Int) = -1 - (kk : Int) := i64_not kk (by omega)
                    have q1 := as_num
                    have q2 := as_word1
                    have q3 := as_word2
                    have q4 := as_row1
                    have q5 := as_row2
                    go_wp2_with fail
                    have hx6 : Below W'.heap.size W' (W'.alloc (.cells #[] 88)) := (Below.refl _ _).alloc (Nat.le_refl _) _
                    obtain ⟨W6, hW6⟩ : ∃ W6, W6 = W'.alloc (.cells #[] 88) := ⟨_, rfl⟩
                    rw [← hW6] at hx6 ⊢
                    clear hW6 q1 q2 q3 q4 q5
                    have hr6 := HRD5.out.kept hx6
                    have hm6 := HM5.out.trans (ModB.of_below hx6)
                    have hr := HR.out
                    rw [if_neg (by have := HK.out; omega), if_neg (by have := HK.out; omega), if_pos HK.out] at hr
                    by_cases hsh3 : s.size < p + 1 + n + kk
                    · refine (bytes_no b s (p + 1 + n) kk W6 hr6 hs (by omega) hsh3 (by omega)).mono ?_
                      rintro e W7 ⟨rfl, _, hm7⟩
                      have e0 : r = .bad s.size 3 := by rw [hr]; exact if_pos hsh3
                      subst e0
                      exact ⟨rfl, HX.out _ (hm6.trans hm7), rfl⟩
                    · rw [if_neg hsh3] at hr
                      refine (bytes_ok b s (p + 1 + n) kk W6 hr6 hs (by omega)).mono ?_
                      rintro e W8 ⟨rfl, hr8, hm8⟩
                      have hm8 := hm6.trans hm8
                      have HR8 := Lib.hid hr8
                      have HM8 := Lib.hid hm8
                      have HRF := Lib.hid hr
                      clear hr8 hm8 hm6 hr6 hr
                      go_wp2_with fail
                      refine (cell_Text.calls (s.extract (p + 1 + n) (p + 1 + n + kk)) 2 0 (s.extract (p + 1 + n) (p + 1 + n + kk)) [] W8 rfl).mono ?_
                      rintro e W7 ⟨v3, rfl, hR7, hbb⟩
                      have hm7 := HM8.out.trans (ModB.of_below hbb)
                      have hr7 := HR8.out.kept hbb
                      obtain ⟨A3, c3, rfl⟩ := R_slice hR7
                      have hg7 := (hm7.block _ (Array.getElem?_eq_some_iff.1 HG1.out).1 (by have := HBL.out; omega)).trans HG1.out
                      have z0 : W7.cell? ⟨w.heap.size, 0, none⟩ = some (.int .i64 0) := by rw [Lib.cell_of_heap hg7]; rfl
                      have z1 : W7.cell? ⟨w.heap.size, 1, none⟩ = some (.int .i64 0) := by rw [Lib.cell_of_heap hg7]; rfl
                      have z2 : W7.cell? ⟨w.heap.size, 2, none⟩ = some (.string (⟨#[]⟩ : ByteArray)) := by rw [Lib.cell_of_heap hg7]; rfl
                      have z3 : W7.cell? ⟨w.heap.size, 3, none⟩ = some (.slice none 0 0) := by rw [Lib.cell_of_heap hg7]; rfl
                      have f0 := Lib.frozen_of_heap hg7 0
                      have f1 := Lib.frozen_of_heap hg7 1
                      have f2 := Lib.frozen_of_heap hg7 2
                      have f3 := Lib.frozen_of_heap hg7 3
                      have HG7 := Lib.hid hg7
                      have HM7 := Lib.hid hm7
                      have HR7 := Lib.hid hr7
                      have HRR := Lib.hid hR7
                      have hsz6 : w.heap.size < W8.heap.size := by have := (Array.getElem?_eq_some_iff.1 HG1.out).1; have := HM8.out.size; omega
                      have HSZ6 := Lib.hid hsz6
                      clear hg7 hm7 hr7 hR7 hbb hx6 hsz6
                      go_wp2_with fail
                      obtain ⟨e1, e2, e3⟩ := fin_cell HBL.out (HX.out _ HM7.out) HR7.out HSZ6.out (Kd.R_mono (Kd.R_bound HRR.out) (fun k hk => by have := HBL.out; have := HSZ6.out; omega)) (.int .i64 2) (.int .i64 0) (.string (s.extract (p + 1 + n) (p + 1 + n + kk))) (.slice A3 0 c3)
                      have e0 : r = .ok ⟨2, 0, s.extract (p + 1 + n) (p + 1 + n + kk), []⟩ (p + 1 + n + kk) := HRF.out
                      refine bodyPost_ret (results_cell_row rfl _ _ w.heap.size 25 #[.int .i64 2, .int .i64 0, .string (s.extract (p + 1 + n) (p + 1 + n + kk)), .slice A3 0 c3] (0, 0) _ rfl (four_put HG7.out _ _ _ _) Try.underlying25 rfl (by kernel_rfl)) rfl ?_
                      rw [e0]
                      exact ⟨e1, ⟨_, rfl, e3⟩, e2, by omega, by omega⟩
          · have e0 : r = .bad p 5 := by rw [HR.out]; exact if_pos (by rw [decide_eq_false hd0])
            rw [decide_eq_false hd0]
            refine (need_no _ _ _).mono ?_
            rintro e W' ⟨rfl, rfl⟩
            rw [e0]
            exact ⟨rfl, HX.out _ HM3.out, rfl⟩
      · have hv : firstV c = .iface 92 (.agg #[]) := by unfold firstV; rw [if_neg (by omega), if_neg (by omega), if_neg (by omega), if_pos hk]
        have hmost := most_row
        have hw8 : widthOf (c / 16) = 2 := by rw [hk]; rfl
        have hm8 : mostOf (c / 16) = 4095 := by rw [hk]; rfl
        rw [hv]
        have HMO := Lib.hid hmost
        clear hmost hv
        go_wp2_with fail
        refine (need_ok _ _ _).mono ?_
        rintro e W' ⟨rfl, rfl⟩
        go_wp2_with fail
        refine (HMO.out _).mono ?_
        rintro e W3 ⟨rfl, hb3⟩
        have hr3 := HRD2.out.kept hb3
        have hm3 := HM2.out.trans (ModB.of_below hb3)
        have HRD3 := Lib.hid hr3
        have HM3 := Lib.hid hm3
        have hsz3 := hb3.size
        clear hb3 hr3 hm3 HRD2 HM2 m1 m2 m3
        go_wp2_with fail
        obtain ⟨n, hn⟩ : ∃ n, n = c % 16 := ⟨_, rfl⟩
        rw [show (c : Int) % 16 = (n : Int) by omega]
        have hr := HR3.out
        rw [← hn, hw8, hm8] at hr
        have HR := Lib.hid hr
        have hn16 : n ≤ 15 := by omega
        have HN := Lib.hid hn
        have HW8 := Lib.hid hw8
        have HK := Lib.hid hk
        clear hr HR3 hn hw8 hm8 hk
        by_cases hwd : 2 < n
        · rw [decide_eq_false (by omega : ¬ (n : Int) ≤ 2)]
          refine (need_no _ _ _).mono ?_
          rintro e W' ⟨rfl, rfl⟩
          have e0 : r = .bad p 4 := by rw [HR.out]; exact if_pos hwd
          rw [e0]
          exact ⟨rfl, HX.out _ HM3.out, rfl⟩
        · rw [decide_eq_true (by omega : (n : Int) ≤ 2)]
          have hr := HR.out
          rw [if_neg hwd] at hr
          have HR := Lib.hid hr
          clear hr
          refine (need_ok _ _ _).mono ?_
          rintro e W' ⟨rfl, rfl⟩
          go_wp2_with fail
          by_cases hd0 : 0 < d
          · have hr := HR.out
            rw [if_neg (by rw [decide_eq_true hd0]; decide)] at hr
            have HR := Lib.hid hr
            clear hr
            rw [decide_eq_true hd0]
            refine (need_ok _ _ _).mono ?_
            rintro e W' ⟨rfl, rfl⟩
            go_wp2_with fail
            by_cases hsh2 : s.size < p + 1 + n
            · refine (bytes_no b s (p + 1) n W' HRD3.out hs (by omega) hsh2 (by omega)).mono ?_
              rintro e W4 ⟨rfl, _, hm⟩
              have e0 : r = .bad s.size 3 := by rw [HR.out]; exact if_pos hsh2
              rw [e0]
              exact ⟨rfl, HX.out _ (HM3.out.trans hm), rfl⟩
            · have hr := HR.out
              rw [if_neg hsh2] at hr
              have HR := Lib.hid hr
              clear hr
              refine (bytes_ok b s (p + 1) n W' HRD3.out hs (by omega)).mono ?_
              rintro e W4 ⟨rfl, hr4, hm4⟩
              have hm4 := HM3.out.trans hm4
              have HRD4 := Lib.hid hr4
              have HM4 := Lib.hid hm4
              clear hr4 hm4 HRD3 HM3
              go_wp2_with fail
              rw [Lib.run_convert_string_bytes (P := Try.prog) W4 9 55 5 (s.extract (p + 1) (p + 1 + n)) Try.underlying9 Try.underlying55 Try.underlying5]
              simp only [Result.andThen]
              rw [Oper.upon_value]
              have hxs : (s.extract (p + 1) (p + 1 + n)).size = n := by rw [ByteArray.size_extract]; omega
              obtain ⟨W5, hW5⟩ : ∃ W5, W5 = Lib.bytesWorld W4 5 (s.extract (p + 1) (p + 1 + n)) := ⟨_, rfl⟩
              obtain ⟨gc, hgc⟩ : ∃ gc, gc = grownCap W4 (s.extract (p + 1) (p + 1 + n)).size 0 5 := ⟨_, rfl⟩
              obtain ⟨gb, hgb⟩ : ∃ gb, gb = W4.heap.size := ⟨_, rfl⟩
              rw [← hgc, ← hW5, hxs, ← hgb]
              have hb5 : Below W4.heap.size W4 W5 := by rw [hW5]; exact below_bytes _ _ _
              have hcell : ∀ j, j < n → W5.cell? ⟨gb, j, none⟩ = some (.int .u8 (byteAt s (p + 1 + j) : Int)) := fun j hj => by
                rw [hW5, hgb, Lib.bytesWorld_cell _ _ _ _ (by omega), ext_at s (p + 1) n j (by omega) hj]
              have hr5 := HRD4.out.kept hb5
              have hm5 := HM4.out.trans (ModB.of_below hb5)
              have hsz5 := Nat.le_trans (HM4.out.size) hb5.size
              have HCELL := Lib.hid hcell
              have HRD5 := Lib.hid hr5
              have HM5 := Lib.hid hm5
              clear hxs hW5 hgc hb5 hcell hr5 hm5 HRD4 HM4 hgb
              go_wp2_with fail
              go_loopw [11, 52] (fun k i wr => ∃ j : Nat, j ≤ n ∧ i = .int .i64 (j : Int) ∧ k = .int .u64 (numAt s (p + 1) j : Int) ∧ (0 < j → byteAt s (p + 1) ≠ 0) ∧ W5 = wr) (fun _ i _ => n - (intOf i).toNat)
              case atStart => exact ⟨0, Nat.zero_le _, rfl, rfl, fun h => absurd h (by decide), rfl⟩
              case round =>
                obtain ⟨j, hj, rfl, rfl, hnz, rfl⟩ := hrel
                by_cases hjn : j < n
                · have cj := HCELL.out j hjn
                  have hcl := byteAt_lt s (p + 1 + j)
                  have hnl := numAt_lt s (p + 1) j
                  have hor := or_byte s (p + 1) j (by omega)
                  obtain ⟨bj, hbj⟩ : ∃ bj, bj = byteAt s (p + 1 + j) := ⟨_, rfl⟩
                  obtain ⟨nj, hnj⟩ : ∃ nj, nj = numAt s (p + 1) j := ⟨_, rfl⟩
                  rw [← hbj] at cj hcl hor
                  rw [← hnj] at hnl hor ⊢
                  have hnl64 : nj * 256 + 255 < 18446744073709551616 := by
                    have : 256 ^ j ≤ 256 ^ 7 := Nat.pow_le_pow_right (by decide) (by omega)
                    have h7 : (256 : Nat) ^ 7 = 72057594037927936 := by decide
                    omega
                  have HBJ := Lib.hid hbj
                  have HNJ := Lib.hid hnj
                  have HOR := Lib.hid hor
                  clear hbj hnj hor
                  by_cases hj0 : 0 < j
                  · go_wp2_with fail
                    refine (need_ok _ _ _).mono ?_
                    rintro e W' ⟨rfl, rfl⟩
                    go_wp2_with fail
                    go_roundw
                    case rel => exact ⟨j + 1, by omega, by go_num, by rw [HOR.out], by have := HBJ.out; have := hnz; intro _; exact hnz hj0, trivial⟩
                    case measure => simp [intOf]; omega
                  · have hj00 : j = 0 := by omega
                    have hbz : bj = byteAt s (p + 1) := by rw [HBJ.out, hj00, Nat.add_zero]
                    have HBZ := Lib.hid hbz
                    clear hj00 hbz
                    by_cases hb0 : 0 < bj
                    · go_wp2_with fail
                      refine (need_ok _ _ _).mono ?_
                      rintro e W' ⟨rfl, rfl⟩
                      go_wp2_with fail
                      go_roundw
                      case rel => exact ⟨j + 1, by omega, by go_num, by rw [HOR.out], by have := HBJ.out; have := hnz; intro _; have := HBZ.out; omega, trivial⟩
                      case measure => simp [intOf]; omega
                    · have e0 : r = .bad p 4 := by rw [HR.out]; exact if_pos ⟨by omega, by have := HBZ.out; omega⟩
                      go_wp2_with fail
                      refine (need_no _ _ _).mono ?_
                      rintro e W' ⟨rfl, rfl⟩
                      subst e0
                      exact ⟨rfl, HX.out _ HM5.out, rfl⟩
                · have hjn' : j = n := by omega
                  have hr := HR.out
                  rw [if_neg (by rintro ⟨h1, h2⟩; exact hnz (by omega) h2)] at hr
                  have HR := Lib.hid hr
                  have HJN := Lib.hid hjn'
                  clear hr hjn'
                  obtain ⟨kk, hkk⟩ : ∃ kk, kk = numAt s (p + 1) j := ⟨_, rfl⟩
                  rw [← hkk]
                  have HKK := Lib.hid hkk
                  clear hkk
                  go_wp2_with fail
                  have hr := HR.out
                  rw [show numAt s (p + 1) n = kk by rw [HKK.out, HJN.out]] at hr
                  have HR := Lib.hid hr
                  clear hr
                  by_cases hmx : 4095 < kk
                  · have e0 : r = .bad p 4 := by rw [HR.out]; exact if_pos hmx
                    rw [decide_eq_false (by omega : ¬ (kk : Int) ≤ 4095)]
                    refine (need_no _ _ _).mono ?_
                    rintro e W' ⟨rfl, rfl⟩
                    subst e0
                    exact ⟨rfl, HX.out _ HM5.out, rfl⟩
                  · have hr := HR.out
                    rw [if_neg hmx] at hr
                    have HR := Lib.hid hr
                    clear hr
                    rw [decide_eq_true (by omega : (kk : Int) ≤ 4095)]
                    refine (need_ok _ _ _).mono ?_
                    rintro e W' ⟨rfl, rfl⟩
                    have hnot : bits BinOp.xor IntKind.i64 (-1) (kk : Int) = -1 - (kk : Int) := i64_not kk (by omega)
                    have q1 := as_num
                    have q2 := as_word1
                    have q3 := as_word2
                    have q4 := as_row1
                    have q5 := as_row2
                    go_wp2_with fail
                    clear q1 q2 q3 q4 q5 hnot
                    have hx6 : Below W'.heap.size W' (W'.alloc (.cells #[.int .i64 3, .int .i64 0, .string (⟨#[]⟩ : ByteArray), .slice none 0 0] 25)) := (Below.refl _ _).alloc (Nat.le_refl _) _
                    have hblk := heap_alloc_last W' (.cells #[.int .i64 3, .int .i64 0, .string (⟨#[]⟩ : ByteArray), .slice none 0 0] 25)
                    obtain ⟨W6, hW6⟩ : ∃ W6, W6 = W'.alloc (.cells #[.int .i64 3, .int .i64 0, .string (⟨#[]⟩ : ByteArray), .slice none 0 0] 25) := ⟨_, rfl⟩
                    rw [← hW6] at hx6 hblk ⊢
                    obtain ⟨gO, hgO⟩ : ∃ gO, gO = W'.heap.size := ⟨_, rfl⟩
                    rw [← hgO] at hblk ⊢
                    have hout : OutAt W1 b gO s (.slice none 0 0) [] (p + 1 + n) W6 := ⟨HM5.out.trans (ModB.of_below hx6), by rw [hgO]; exact HM5.out.size, by have := (Array.getElem?_eq_some_iff.1 HG1.out).1; have := HBL.out; omega, hblk, Kd.R_nil _ _ _ _ _, HRD5.out.kept hx6⟩
                    have hr := HR.out
                    rw [if_neg (by have := HK.out; omega), if_neg (by have := HK.out; omega), if_neg (by have := HK.out; omega)] at hr
                    have hgw : w.heap.size < gO := by have := (Array.getElem?_eq_some_iff.1 HG1.out).1; have := HM5.out.size; omega
                    have HRF := Lib.hid hr
                    have HO := Lib.hid hout
                    have HGW := Lib.hid hgw
                    clear hr hout hW6 hx6 hblk hgO hgw HM5 HRD5 HCELL
                    go_loopw [100] (fun i wr => ∃ (m : Nat) (v : Value) (acc : List S25) (q : Nat), m ≤ kk ∧ i = .int .i64 (m : Int) ∧ acc.length = m ∧ OutAt W1 b gO s v acc q wr ∧ p + 1 + n ≤ q ∧ q ≤ s.size ∧ manyW g (kk - m) q acc = manyW g kk (p + 1 + n) []) (fun i _ => kk - (intOf i).toNat)
                    case atStart => exact ⟨0, _, [], p + 1 + n, Nat.zero_le _, rfl, rfl, HO.out, Nat.le_refl _, by omega, rfl⟩
                    case round =>
                      obtain ⟨m, v, acc, q, hm, rfl, hal, hout, hq1, hq2, hman⟩ := hrel
                      by_cases hmk : m < kk
                      · rw [show kk - m = (kk - (m + 1)) + 1 by omega, manyW] at hman
                        obtain ⟨A, cp, rfl⟩ := R_slice hout.row
                        have hcall := HIH.out hd0 q
                        have c3 : wr.cell? ⟨gO, 3, none⟩ = some (.slice A acc.length cp) := by rw [Lib.cell_of_heap hout.blk]; rfl
                        cases hgq : g q with
                        | bad p' e' =>
                          rw [hgq] at hcall hman
                          have e0 : r = .bad p' e' := by rw [HRF.out, ← hman]
                          have HCALL := Lib.hid (hcall wr.drew hout.rd hq2)
                          have HMW := Lib.hid hout.mod
                          clear hcall hman hgq hal hout HRF HR
                          subst e0
                          go_wp2_with fail
                          refine' wp_region_factsP (S := (fun _ W => W = wr.drew)) (fun _ => ModB b) [eqM (.pointer (some ⟨gO, 3, none⟩)), eqM (.slice A acc.length cp), eqM (.pointer (some ⟨b, 0, none⟩)), eqM (.int .i64 (d : Int)), eqM (.int .i64 ((d : Int) - 1)), badM, badM, eqM undef] (by kernel_rfl) (by kernel_rfl) ?hst ?h0 (Ord.stepsP_cons ?s0 (Ord.stepsP_cons ?s1 (Ord.stepsP_cons ?s2 (Ord.stepsP_cons ?s3 (Ord.stepsP_cons ?s4 (Ord.stepsP_bad ?s5 (Ord.stepsP_bad ?s6 (Ord.stepsP_cons ?s7 (Ord.stepsP_nil))))))))) ?fin
                          case s0 =>
                            intro g W L hL hSW hd
                            try simp only [Nat.zero_add, Nat.reduceAdd] at hd ⊢
                            with_reducible refine OpGives.pre_reads [] 113 ?_ ?_ ?_
                            · rfl
                            · kernel_rfl
                            simp only [List.map_cons, List.map_nil]
                            subst hSW; refine OpGives.val (v := .pointer (some ⟨gO, 3, none⟩)) (w' := wr.drew) ?_ ⟨ModB.refl b _, rfl, rfl⟩; go_simp
                          case s1 =>
                            intro g W L hL hSW hd
                            try simp only [Nat.zero_add, Nat.reduceAdd] at hd ⊢
                            have h0 : g 0 = _ := hd 0 (by decide) (by kernel_rfl)
                            with_reducible refine OpGives.pre_reads [(102, 0)] 113 ?_ ?_ ?_
                            · rfl
                            · kernel_rfl
                            simp only [List.map_cons, List.map_nil]
                            subst hSW; refine OpGives.val (v := .slice A acc.length cp) (w' := wr.drew) ?_ ⟨ModB.refl b _, rfl, rfl⟩; go_simp
                          case s2 =>
                            intro g W L hL hSW hd
                            try simp only [Nat.zero_add, Nat.reduceAdd] at hd ⊢
                            with_reducible refine OpGives.pre_reads [] 113 ?_ ?_ ?_
                            · rfl
                            · kernel_rfl
                            simp only [List.map_cons, List.map_nil]
                            refine OpGives.val (w' := W) ?_ ⟨ModB.refl b _, rfl, hSW⟩
                            go_simp
                            try with_reducible rfl
                          case s3 =>
                            intro g W L hL hSW hd
                            try simp only [Nat.zero_add, Nat.reduceAdd] at hd ⊢
                            with_reducible refine OpGives.pre_reads [] 113 ?_ ?_ ?_
                            · rfl
                            · kernel_rfl
                            simp only [List.map_cons, List.map_nil]
                            refine OpGives.val (w' := W) ?_ ⟨ModB.refl b _, rfl, hSW⟩
                            go_simp
                            try with_reducible rfl
                          case s4 =>
                            intro g W L hL hSW hd
                            try simp only [Nat.zero_add, Nat.reduceAdd] at hd ⊢
                            have h3 : g 3 = _ := hd 3 (by decide) (by kernel_rfl)
                            with_reducible refine OpGives.pre_reads [(105, 3)] 113 ?_ ?_ ?_
                            · rfl
                            · kernel_rfl
                            simp only [List.map_cons, List.map_nil]
                            subst hSW; refine OpGives.val (v := .int .i64 ((d : Int) - 1)) (w' := wr.drew) ?_ ⟨ModB.refl b _, rfl, rfl⟩; go_simp; rw [IntKind.wrap_i64]; omega
                          case s5 =>
                            intro g W L hL hSW hd
                            try simp only [Nat.zero_add, Nat.reduceAdd] at hd ⊢
                            have h2 : g 2 = _ := hd 2 (by decide) (by kernel_rfl)
                            have h4 : g 4 = _ := hd 4 (by decide) (by kernel_rfl)
                            with_reducible refine OpBad.pre_reads [(104, 2), (106, 4)] 113 ?_ ?_ ?_
                            · rfl
                            · kernel_rfl
                            simp only [List.map_cons, List.map_nil]
                            subst hSW; refine OpBad.call (f := 30) (args := #[.pointer (some ⟨b, 0, none⟩), .int .i64 ((d : Int) - 1)]) (w' := wr.drew) (by go_simp) (HCALL.out.mono fun e w9 he => ⟨_, he.2, fun a ha => ⟨ha, HX.out _ (HMW.out.trans ((ModB.refl b _).drew.trans he.1)), rfl⟩⟩)
                          case s6 =>
                            intro g W L hL hSW hd
                            try simp only [Nat.zero_add, Nat.reduceAdd] at hd ⊢
                            have h5 := hd 5 (by decide) (by kernel_rfl)
                            change (badM) (g 5) W at h5
                            with_reducible refine OpBad.pre_reads [(107, 5)] 113 ?_ ?_ ?_
                            · rfl
                            · kernel_rfl
                            simp only [List.map_cons, List.map_nil]
                            exact h5.elim
                          case s7 =>
                            intro g W L hL hSW hd
                            try simp only [Nat.zero_add, Nat.reduceAdd] at hd ⊢
                            have h1 : g 1 = _ := hd 1 (by decide) (by kernel_rfl)
                            have h6 := hd 6 (by decide) (by kernel_rfl)
                            change (badM) (g 6) W at h6
                            with_reducible refine OpGives.pre_reads [(103, 1), (108, 6)] 113 ?_ ?_ ?_
                            · rfl
                            · kernel_rfl
                            simp only [List.map_cons, List.map_nil]
                            exact h6.elim
                          case hst => exact facts_bad
                          case h0 => rfl
                          case fin => exact fun v W L hL hSW hf => (hf 5 (Nat.lt_of_lt_of_eq (by decide : 5 < 8) rfl)).elim
                        | ok x q' =>
                          rw [hgq] at hcall hman
                          have hvl : ∀ k, (Value.slice A acc.length cp).ownBlock = some k → k < wr.heap.size := fun k hk => (own_lt_R hout.row k hk).2.2
                          have hvg : ∀ k, (Value.slice A acc.length cp).ownBlock = some k → gO < k := fun k hk => (own_lt_R hout.row k hk).1
                          have hgl : gO < wr.heap.size := (Array.getElem?_eq_some_iff.1 hout.blk).1
                          have hbl2 : b < wr.heap.size := Nat.lt_of_lt_of_le hout.lt (Nat.le_trans hout.ge (Nat.le_of_lt hgl))
                          have hbg : b ≠ gO := by have := hout.lt; have := hout.ge; omega
                          have hin : InR wr b gO s (.slice A acc.length cp) acc q q' (fun _ => false) wr.drew := ⟨ModV.drew, fun _ => Kd.R_below hout.row ((Below.refl _ _).drew), fun _ => hout.rd, fun e => (by cases e)⟩
                          have hq'2 : q ≤ q' ∧ q' ≤ s.size ∨ True := .inr trivial
                          have HC := Lib.hid (fun W (hrd : RdAt b s q W) => hcall W hrd hq2)
                          have HIN := Lib.hid hin
                          have HVL := Lib.hid hvl
                          have HVG := Lib.hid hvg
                          have HGL := Lib.hid hgl
                          have HBL2 := Lib.hid hbl2
                          have HBG := Lib.hid hbg
                          have HOUT := Lib.hid hout
                          have HMAN := Lib.hid hman
                          have HAL := Lib.hid hal
                          clear hcall hman hgq hal hout hvl hvg hgl hbl2 hbg hin hq'2
                          go_wp2_with fail
                          refine' wp_region_factsM (S := (InR wr b gO s (.slice A acc.length cp) acc q q')) (Rr b (.slice A acc.length cp)) [eqM (.pointer (some ⟨gO, 3, none⟩)), eqM (.slice A acc.length cp), eqM (.pointer (some ⟨b, 0, none⟩)), eqM (.int .i64 (d : Int)), eqM (.int .i64 ((d : Int) - 1)), childP b (.slice A acc.length cp) x wr.heap.size, litP b (.slice A acc.length cp) x wr.heap.size, rowP b gO (acc ++ [x])] (by kernel_rfl) (by kernel_rfl) ?hst ?h0 (Ord.stepsM_cons ?s0 (Ord.stepsM_cons ?s1 (Ord.stepsM_cons ?s2 (Ord.stepsM_cons ?s3 (Ord.stepsM_cons ?s4 (Ord.stepsM_cons ?s5 (Ord.stepsM_cons ?s6 (Ord.stepsM_cons ?s7 (Ord.stepsM_nil))))))))) ?fin
                          case s0 =>
                            intro g W L hL hSW hd
                            try simp only [Nat.zero_add, Nat.reduceAdd] at hd ⊢
                            with_reducible refine OpGives.pre_reads [] 113 ?_ ?_ ?_
                            · rfl
                            · kernel_rfl
                            simp only [List.map_cons, List.map_nil]
                            refine OpGives.val (v := .pointer (some ⟨gO, 3, none⟩)) (w' := W) ?_ ⟨Rr.of_B (by decide) (ModB.refl b _), rfl, hSW⟩; go_simp
                          case s1 =>
                            intro g W L hL hSW hd
                            try simp only [Nat.zero_add, Nat.reduceAdd] at hd ⊢
                            have h0 : g 0 = _ := hd 0 (by decide) (by kernel_rfl)
                            with_reducible refine OpGives.pre_reads [(102, 0)] 113 ?_ ?_ ?_
                            · rfl
                            · kernel_rfl
                            simp only [List.map_cons, List.map_nil]
                            have c1 : W.cell? ⟨gO, 3, none⟩ = some (.slice A acc.length cp) := (by rw [Lib.cell_of_heap ((hSW.1.block gO HGL.out (Ne.symm HBG.out) (fun e => Nat.lt_irrefl _ (HVG.out _ e))).trans HOUT.out.blk)]; rfl); refine OpGives.val (v := .slice A acc.length cp) (w' := W) ?_ ⟨Rr.of_B (by decide) (ModB.refl b _), rfl, hSW⟩; go_simp
                          case s2 =>
                            intro g W L hL hSW hd
                            try simp only [Nat.zero_add, Nat.reduceAdd] at hd ⊢
                            with_reducible refine OpGives.pre_reads [] 113 ?_ ?_ ?_
                            · rfl
                            · kernel_rfl
                            simp only [List.map_cons, List.map_nil]
                            refine OpGives.val (w' := W) ?_ ⟨Rr.of_B (by decide) (ModB.refl b _), rfl, hSW⟩
                            go_simp
                            try with_reducible rfl
                          case s3 =>
                            intro g W L hL hSW hd
                            try simp only [Nat.zero_add, Nat.reduceAdd] at hd ⊢
                            with_reducible refine OpGives.pre_reads [] 113 ?_ ?_ ?_
                            · rfl
                            · kernel_rfl
                            simp only [List.map_cons, List.map_nil]
                            refine OpGives.val (w' := W) ?_ ⟨Rr.of_B (by decide) (ModB.refl b _), rfl, hSW⟩
                            go_simp
                            try with_reducible rfl
                          case s4 =>
                            intro g W L hL hSW hd
                            try simp only [Nat.zero_add, Nat.reduceAdd] at hd ⊢
                            have h3 : g 3 = _ := hd 3 (by decide) (by kernel_rfl)
                            with_reducible refine OpGives.pre_reads [(105, 3)] 113 ?_ ?_ ?_
                            · rfl
                            · kernel_rfl
                            simp only [List.map_cons, List.map_nil]
                            refine OpGives.val (v := .int .i64 ((d : Int) - 1)) (w' := W) ?_ ⟨Rr.of_B (by decide) (ModB.refl b _), rfl, hSW⟩; go_simp; rw [IntKind.wrap_i64]; omega
                          case s5 =>
                            intro g W L hL hSW hd
                            try simp only [Nat.zero_add, Nat.reduceAdd] at hd ⊢
                            have h2 : g 2 = _ := hd 2 (by decide) (by kernel_rfl)
                            have h4 : g 4 = _ := hd 4 (by decide) (by kernel_rfl)
                            with_reducible refine OpGives.pre_reads [(104, 2), (106, 4)] 113 ?_ ?_ ?_
                            · rfl
                            · kernel_rfl
                            simp only [List.map_cons, List.map_nil]
                            refine OpGives.call (f := 30) (args := #[.pointer (some ⟨b, 0, none⟩), .int .i64 ((d : Int) - 1)]) (w' := W) (by go_simp) ((HC.out W (hSW.2.2.1 hL)).mono fun e w9 hp => call_post hSW HBL2.out HVL.out hp)
                          case s6 =>
                            intro g W L hL hSW hd
                            try simp only [Nat.zero_add, Nat.reduceAdd] at hd ⊢
                            have h5 := hd 5 (by decide) (by kernel_rfl)
                            change (childP b (.slice A acc.length cp) x wr.heap.size) (g 5) W at h5
                            with_reducible refine OpGives.pre_reads [(107, 5)] 113 ?_ ?_ ?_
                            · rfl
                            · kernel_rfl
                            simp only [List.map_cons, List.map_nil]
                            obtain ⟨v3, e5, hR5⟩ := h5; obtain ⟨A3, c3', rfl⟩ := R_slice hR5; rw [e5]; refine OpGives.val (v := .slice (some ⟨W.heap.size, 0, none⟩) 1 1) (w' := W.alloc (.cells #[.int .i64 x.f0, .int .i64 x.f1, .string x.f2, .slice A3 x.f3.length c3'] 25)) ?_ (lit_post hSW HBL2.out HVL.out rfl hR5); go_simp
                          case s7 =>
                            intro g W L hL hSW hd
                            try simp only [Nat.zero_add, Nat.reduceAdd] at hd ⊢
                            have h1 : g 1 = _ := hd 1 (by decide) (by kernel_rfl)
                            have h6 := hd 6 (by decide) (by kernel_rfl)
                            change (litP b (.slice A acc.length cp) x wr.heap.size) (g 6) W at h6
                            with_reducible refine OpGives.pre_reads [(103, 1), (108, 6)] 113 ?_ ?_ ?_
                            · rfl
                            · kernel_rfl
                            simp only [List.map_cons, List.map_nil]
                            obtain ⟨v', W', hr, hg, hrow, hS'⟩ := append_cell hSW hL HBL2.out HGL.out HGL.out (fun k hk => Nat.lt_of_lt_of_le HGL.out hk) h6 (by have := HAL.out; omega) 23; rw [← h1] at hr; exact OpGives.val (v := v') (w' := W') (exec_append _ _ _ rfl hr) ⟨Rr.of_grown hg, hrow, hS'⟩
                          case hst => exact facts_st
                          case h0 => exact HIN.out
                          case fin =>
                            intro v W L hL hSW hf
                            have h0 : v 0 = _ := hf 0 (Nat.lt_of_lt_of_eq (by decide : 0 < 8) rfl)
                            have h7 : rowP b gO (acc ++ [x]) (v 7) W := hf 7 (Nat.lt_of_lt_of_eq (by decide : 7 < 8) rfl)
                            clear hf
                            have hrd := hSW.2.2.2 (hL 5 (Nat.lt_of_lt_of_eq (by decide : 5 < 8) rfl))
                            have hmv := hSW.1
                            generalize hF : Ord.pre _ _ v _ = F
                            rw [Ord.pre_lit [some 102, some 103, some 104, some 105, some 106, some 107, some 108, some 109]
                              (by kernel_rfl)] at hF
                            simp only [Ord.puts, Nat.zero_add, Nat.reduceAdd] at hF
                            subst hF
                            obtain ⟨A7, c7, e7⟩ := R_slice h7
                            rw [e7] at h7 ⊢
                            have hblk := (hmv.block gO HGL.out (Ne.symm HBG.out) (fun e => Nat.lt_irrefl _ (HVG.out _ e))).trans HOUT.out.blk
                            have hdone := out_step HOUT.out hmv h7 hrd.1
                            have d3 : W.cell? ⟨gO, 3, none⟩ = some (.slice A acc.length cp) := by rw [Lib.cell_of_heap hblk]; rfl
                            have f3 := Lib.frozen_of_heap hblk 3
                            have hq12 := hrd.2
                            have HD := Lib.hid hdone
                            clear hblk hdone hmv hrd h7 e7 hSW hL
                            rw [h0]
                            clear h0
                            refine any_one (i := 8) (by kernel_rfl) ?_
                            refine wpOp_value (v := .pointer (some ⟨gO, 3, none⟩)) (w' := W) rfl rfl (by go_simp) ?_
                            refine any_one (i := 9) (by kernel_rfl) ?_
                            refine wpOp_skip (w' := W.setCell ⟨gO, 3, none⟩ (.slice A7 (acc ++ [x]).length c7)) rfl rfl (by go_simp) ?_
                            refine wpAny_done (by kernel_rfl) ?_ _
                            try simp only [List.getElem_toArray, List.getElem_cons_succ, List.getElem_cons_zero]
                            go_frame
                            clear d3 f3 c3
                            generalize W.setCell ⟨gO, 3, none⟩ (.slice A7 (acc ++ [x]).length c7) = W8 at *
                            go_wp2_with fail
                            go_roundw
                            case rel => exact ⟨m + 1, _, acc ++ [x], q', by omega, by go_num, by have := HAL.out; simp; omega, HD.out, by omega, hq12.2, HMAN.out⟩
                            case measure => simp [intOf]; omega
                      · have hmk' : m = kk := by omega
                        rw [hmk', Nat.sub_self, manyW] at hman
                        have e0 : r = .ok ⟨3, 0, ⟨#[]⟩, acc⟩ q := by rw [HRF.out, ← hman]
                        obtain ⟨A, cp, rfl⟩ := R_slice hout.row
                        have hg7 := (hout.mod.block _ (Array.getElem?_eq_some_iff.1 HG1.out).1 (by have := HBL.out; omega)).trans HG1.out
                        have z0 : wr.cell? ⟨w.heap.size, 0, none⟩ = some (.int .i64 0) := by rw [Lib.cell_of_heap hg7]; rfl
                        have z1 : wr.cell? ⟨w.heap.size, 1, none⟩ = some (.int .i64 0) := by rw [Lib.cell_of_heap hg7]; rfl
                        have z2 : wr.cell? ⟨w.heap.size, 2, none⟩ = some (.string (⟨#[]⟩ : ByteArray)) := by rw [Lib.cell_of_heap hg7]; rfl
                        have z3 : wr.cell? ⟨w.heap.size, 3, none⟩ = some (.slice none 0 0) := by rw [Lib.cell_of_heap hg7]; rfl
                        have f0 := Lib.frozen_of_heap hg7 0
                        have f1 := Lib.frozen_of_heap hg7 1
                        have f2 := Lib.frozen_of_heap hg7 2
                        have f3 := Lib.frozen_of_heap hg7 3
                        have y0 : wr.cell? ⟨gO, 0, none⟩ = some (.int .i64 3) := by rw [Lib.cell_of_heap hout.blk]; rfl
                        have y1 : wr.cell? ⟨gO, 1, none⟩ = some (.int .i64 0) := by rw [Lib.cell_of_heap hout.blk]; rfl
                        have y2 : wr.cell? ⟨gO, 2, none⟩ = some (.string (⟨#[]⟩ : ByteArray)) := by rw [Lib.cell_of_heap hout.blk]; rfl
                        have y3 : wr.cell? ⟨gO, 3, none⟩ = some (.slice A acc.length cp) := by rw [Lib.cell_of_heap hout.blk]; rfl
                        have HG7 := Lib.hid hg7
                        have HOUT := Lib.hid hout
                        clear hg7 hout hman hmk' HRF HR hal
                        subst e0
                        go_wp2_with fail
                        obtain ⟨e1, e2, e3⟩ := fin_cell HBL.out (HX.out _ HOUT.out.mod) HOUT.out.rd (Nat.lt_succ_of_lt HGW.out) (Kd.R_mono HOUT.out.row (fun k hk => hk.1)) (.int .i64 3) (.int .i64 0) (.string (⟨#[]⟩ : ByteArray)) (.slice A acc.length cp)
                        refine bodyPost_ret (results_cell_row rfl _ _ w.heap.size 25 #[.int .i64 3, .int .i64 0, .string (⟨#[]⟩ : ByteArray), .slice A acc.length cp] (0, 0) _ rfl (four_put HG7.out _ _ _ _) Try.underlying25 rfl (by kernel_rfl)) rfl ?_
                        exact ⟨e1, ⟨_, rfl, e3⟩, e2, by omega, hq2⟩
          · have e0 : r = .bad p 5 := by rw [HR.out]; exact if_pos (by rw [decide_eq_false hd0])
            rw [decide_eq_false hd0]
            refine (need_no _ _ _).mono ?_
            rintro e W' ⟨rfl, rfl⟩
            rw [e0]
            exact ⟨rfl, HX.out _ HM3.out, rfl⟩
/-- The reader's cell, to any depth that is asked. -/
theorem cell_calls (s : ByteArray) (hs : s.size ≤ 140737488355328) (b : Nat) : ∀ (d : Nat), d ≤ 40 → ∀ (p : Nat) (w : World), RdAt b s p w → p ≤ s.size →
    Calls Try.prog 30 #[.pointer (some ⟨b, 0, none⟩), .int .i64 (d : Int)] w (CellPost (cellD s d p) b s p w)
  | 0, _, p, w, h, hp => by
    have := cell_step 0 (by decide) s hs b (fun _ => .bad 0 0) (fun h0 => absurd h0 (by decide)) p w h hp
    rw [show decide (0 < 0) = false by rfl] at this
    exact this
  | d + 1, hd, p, w, h, hp => by
    have ih := cell_calls s hs b d (by omega)
    have := cell_step (d + 1) hd s hs b (cellD s d) (fun _ p w h hp => by
      rw [show (((d + 1 : Nat) : Int) - 1) = (d : Int) by omega]
      exact ih p w h hp) p w h hp
    rw [show decide (0 < d + 1) = true by simp] at this
    exact this
end Go.Proofs.Ytjelpapcboiimaa.PCellPuts
