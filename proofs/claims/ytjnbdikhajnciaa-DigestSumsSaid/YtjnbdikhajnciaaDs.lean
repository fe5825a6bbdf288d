/- Walks of the reference's digest: the digest of a text. -/
import Derived.Test.YtjnbdikhajnciaaDo
import Derived.Test.YtjnbdikhajnciaaDp
import Derived.Test.YtjnbdikhajnciaaDm
namespace Go.Proofs.Ytjnbdikhajnciaa.Dig
open Go.RowKit Go.Proofs.Ytjnbdikhajnciaa.Sha Go.Proofs.Ytjnbdikhajnciaa.Ord Go.Proofs.YtjnbdikhajnciaaW.PrintWords

/-- The bytes of the first k words. -/
def outOf (x : S8) (k : Nat) : List UInt8 := ((S8.words x).take k).flatMap Sha.bytesOf
theorem outOf_succ (x : S8) (k : Nat) (hk : k < 8) : outOf x (k + 1) = outOf x k ++ Sha.bytesOf ((S8.words x).getD k 0) := by
  unfold outOf
  have h : k < (S8.words x).length := by simpa [S8.words] using hk
  rw [List.take_succ_eq_append_getElem h, List.flatMap_append]
  simp [List.getD_eq_getElem?_getD, h]
theorem outOf_full (x : S8) : outOf x 8 = x.bytes := by simp [outOf, S8.words, S8.bytes]
theorem outOf_len (x : S8) (k : Nat) (hk : k ≤ 8) : (outOf x k).length = 4 * k := by
  induction k with
  | zero => rfl
  | succ k ih => rw [outOf_succ x k (by omega), List.length_append, ih (by omega)]; simp [Sha.bytesOf]; omega

/-- The round's world: the state in block g. -/
structure Fn (w wr : World) (x : S8) : Prop where
  row : Row 34 wr w.heap.size (S8.words x)
  below : Below w.heap.size w wr
theorem Fn.later {w wr w' : World} {x : S8} (h : Fn w wr x) (hb : Below wr.heap.size wr w') : Fn w w' x :=
  ⟨h.row.below hb h.row.lt, h.below.trans (hb.mono (by have := h.row.lt; omega))⟩

set_option maxRecDepth 100000 in
set_option maxHeartbeats 8000000 in
theorem refsum_any (s : ByteArray) (hs : s.size ≤ 800000) (w : World) :
    Calls Try.prog 14 #[.string s] w fun e w' => e = .returned (.string ⟨(sum s.data.toList).toArray⟩) ∧ Below w.heap.size w w' := by
  obtain ⟨all, hall⟩ : ∃ t : ByteArray, t = ⟨(s.data.toList ++ tail s.size).toArray⟩ := ⟨_, rfl⟩
  have hsz : all.size = 64 * (all.size / 64) ∧ all.size ≤ 1000000 := by
    have h := tail_len s.size
    have h2 : all.size = s.size + (tail s.size).length := by rw [hall, ba_size, List.length_append]; simp
    omega
  have hsum : sum s.data.toList = (run init (all.size / 64) all.data.toList).bytes := by
    have h2 : all.size = s.size + (tail s.size).length := by rw [hall, ba_size, List.length_append]; simp
    rw [h2, hall]
    simp [sum]
  have cp : ∀ w, Calls Try.prog 42 #[.string s] w fun e w' => e = .returned (.string all) ∧ NewMem w w' := fun w => by rw [hall]; exact padded_any s hs w
  obtain ⟨N, hN⟩ : ∃ N : Nat, N = all.size / 64 := ⟨_, rfl⟩
  rw [← hN] at hsz hsum
  obtain ⟨hsz1, hsz2⟩ := hsz
  have CP := Lib.hid cp
  have HSUM := Lib.hid hsum
  have HSZ := Lib.hid hsz1
  clear cp hsum hall hN hsz1
  go_enter Try.func14, Try.ntmps14
  go_wp2_with fail
  refine (CP.out _).mono ?_
  rintro e w1 ⟨rfl, hb1⟩
  have hn0 : NewMem w (w.alloc (.cells #[.int .u32 1779033703, .int .u32 3144134277, .int .u32 1013904242, .int .u32 2773480762, .int .u32 1359893119, .int .u32 2600822924, .int .u32 528734635, .int .u32 1541459225] 34)) := NewMem.alloc _ _
  have hF : Fn w w1 init := ⟨(hb1.block _ (by simp)).trans (heap_alloc_last w _), hn0.trans hb1⟩
  clear hb1 hn0
  go_wp2_with fail
  go_loopw [5] (fun i wr => ∃ q k : Nat, k ≤ N ∧ i = .int .i64 (q : Int) ∧ Hid (q = 64 * k) ∧ ∃ x, Hid (x = run init k all.data.toList) ∧ Fn w wr x) (fun i _ => all.size - (intOf i).toNat)
  case atStart => exact ⟨0, 0, by omega, rfl, Lib.hid rfl, init, Lib.hid rfl, hF⟩
  case round =>
    clear hF
    obtain ⟨q, k, hk, rfl, hq, x, hx, hF⟩ := hrel
    have hq' := hq.out
    have hsz' := HSZ.out
    obtain ⟨q2, hq2⟩ : ∃ q2 : Nat, q2 = q + 64 := ⟨_, rfl⟩
    have e0 : IntKind.i64.wrap ((q : Int) + 64) = (q2 : Int) := by rw [IntKind.wrap_i64]; omega
    by_cases hlt : k < N
    · have e1 : (q2 : Int) ≤ (all.size : Int) := by omega
      have e2 : (q : Int) ≤ (q2 : Int) := by omega
      have HQ2 := Lib.hid hq2
      obtain ⟨bl, hbl⟩ : ∃ b : ByteArray, all.extract q q2 = b := ⟨_, rfl⟩
      have hbs : bl.size = 64 := by rw [← hbl]; simp [ByteArray.size_extract]; omega
      have HBS := Lib.hid hbs
      have hcut : bl.data.toList = (all.data.toList.drop (64 * k)).take 64 := by
        rw [← hbl, hq2, hq', Lib.extract_data]; congr 1; omega
      obtain ⟨nx, hnx⟩ : ∃ y : S8, y = turn x bl.data.toList := ⟨_, rfl⟩
      have hz : nx = run init (k + 1) all.data.toList := by rw [hnx, hcut, run_add init k 1, hx.out]; rfl
      have ct := refturn_any x bl hbs
      rw [← hnx] at ct
      have CT := Lib.hid ct
      have HZ := Lib.hid hz
      clear hq' hq2 hbs hsz' hcut hz ct hnx
      go_wp2_with fail
      refine wp_region_any (by kernel_rfl) ?_
      change wpAny _ _ _ _ _ _ _ wr.drew
      refine wpAny_take (i := 1) (v := .string all) rfl (by kernel_rfl) (by kernel_rfl) (by kernel_rfl) (fun _ _ _ h => h) (Or.inl ⟨by rfl, fun wx => by go_simp⟩) ?_
      refine wpAny_take (i := 2) (v := .int .i64 (q : Int)) rfl (by kernel_rfl) (by kernel_rfl) (by kernel_rfl) (fun _ _ _ h => h) (Or.inl ⟨by rfl, fun wx => by go_simp⟩) ?_
      refine wpAny_take (i := 3) (v := .int .i64 (q : Int)) rfl (by kernel_rfl) (by kernel_rfl) (by kernel_rfl) (fun _ _ _ h => h) (Or.inl ⟨by rfl, fun wx => by go_simp⟩) ?_
      refine wpAny_take (i := 4) (v := .int .i64 (q2 : Int)) rfl (by kernel_rfl) (by kernel_rfl) (by kernel_rfl) (fun _ _ _ h => h) (Or.inl ⟨by rfl, fun wx => by go_simp⟩) ?_
      refine wpAny_take (i := 5) (v := .string bl) rfl (by kernel_rfl) (by kernel_rfl) (by kernel_rfl) (fun _ _ _ h => h) (Or.inl ⟨by rfl, fun wx => by go_simp⟩) ?_
      refine any_one (i := 0) (by kernel_rfl) ?_
      refine wpOp_value (v := .agg x.cells.toArray) (w' := wr.drew) rfl rfl (exec_load_row 34 _ rfl w.heap.size rfl _ _ _ _ hF.row Try.underlying34 rfl (by rw [info34]; rfl)) ?_
      refine any_one (i := 6) (by kernel_rfl) ?_
      refine wpOp_at rfl rfl (fun K0 hK0 => ?_)
      go_frame
      go_simp
      refine (CT.out _).mono ?_
      rintro e w3 ⟨rfl, hb3⟩
      refine hK0 _ _ ?_
      clear hK0 K0
      have h0 : Row 34 w3 w.heap.size (S8.words x) := (hF.row.drew).below hb3 hF.row.lt
      refine any_one (i := 7) (by kernel_rfl) ?_
      refine wpOp_skip (w' := w3.setRow w.heap.size nx.cells.toArray) rfl rfl (exec_store_row 34 _ _ rfl w.heap.size _ rfl rfl _ _ h0 (by rw [info34]; rfl) (by simp [Us, S8.words, S8.cells]) (S8.all _)) ?_
      refine wpAny_done (by kernel_rfl) ?_ _
      simp only [List.getElem_toArray, List.getElem_cons_succ, List.getElem_cons_zero]
      go_frame
      go_wp2_with fail
      go_roundw
      case rel =>
        refine ⟨q2, k + 1, by omega, rfl, Lib.hid (by have := HQ2.out; have := hq.out; omega), nx, HZ, ?_⟩
        exact ⟨setRow_heap _ _ _ _ _ _ h0, hF.below.trans ((below_drewN' (n := 1) (Below.refl _ _)).trans ((hb3.mono (by have := hF.row.lt; show w.heap.size ≤ wr.heap.size; omega)).trans ⟨rfl, rfl, rfl, by simp, fun j hj => setRow_other _ _ _ _ (by omega)⟩))⟩
      case measure => have := HQ2.out; simp only [intOf]; omega
    · have e1 : ¬ ((q2 : Int) ≤ (all.size : Int)) := by omega
      have hkN : k = N := by omega
      have hxe : x = run init N all.data.toList := by rw [← hkN]; exact hx.out
      have HX := Lib.hid hxe
      clear hxe hkN hq' hq2 hsz' hx hq
      go_wp2_with fail
      go_loopw [6, 7] (fun v i wr => ∃ j : Nat, j ≤ 8 ∧ i = .int .i64 (j : Int) ∧ ∃ t : ByteArray, v = .string t ∧ Hid (t = ⟨(outOf x j).toArray⟩) ∧ Hid (t.size = 4 * j) ∧ Fn w wr x) (fun _ i _ => 8 - (intOf i).toNat)
      case atStart => exact ⟨0, by omega, rfl, ⟨#[]⟩, rfl, Lib.hid rfl, Lib.hid rfl, hF⟩
      case round =>
        clear hF
        obtain ⟨j, hj, rfl, t, rfl, ht, htz, hF⟩ := hrel
        by_cases hlt2 : j < 8
        · have jb : (j : Int) < 8 := by omega
          have cj := hF.row.cell j (by simpa [S8.words] using hlt2)
          have ob := outOf_succ x j hlt2
          generalize (S8.words x).getD j 0 = vj at cj ob
          obtain ⟨tb, htb⟩ : ∃ b : ByteArray, b = ⟨(Sha.bytesOf vj).toArray⟩ := ⟨_, rfl⟩
          have cb := refbytes_any vj
          rw [← htb] at cb
          have hb4 : tb.size = 4 := by rw [htb]; rfl
          have htz' := htz.out
          have kadd : ¬ (9223372036854775807 < t.size + tb.size) := by omega
          have hnew : t ++ tb = ⟨(outOf x (j + 1)).toArray⟩ := by rw [ob, ht.out, htb, ba_app]
          have hnz : (t ++ tb).size = 4 * (j + 1) := by simp; omega
          have CB := Lib.hid cb
          have HNEW := Lib.hid hnew
          have HNZ := Lib.hid hnz
          clear cb hnew hnz htz' hb4 htb ob ht htz
          go_wp2_with fail
          refine (CB.out _).mono ?_
          rintro e w4 ⟨rfl, hb4⟩
          have hF4 := hF.later hb4
          clear cj hF
          go_wp2_with fail
          go_roundw
          case rel => exact ⟨j + 1, by omega, by simp, t ++ tb, rfl, HNEW, HNZ, hF4⟩
          case measure => simp only [intOf]; omega
        · have hj8 : j = 8 := by omega
          subst hj8
          go_wp2_with fail
          go_ret
          refine ⟨?_, hF.below⟩
          have e9 : t = ⟨(sum s.data.toList).toArray⟩ := by rw [ht.out, outOf_full, HSUM.out, ← HX.out]
          rw [← e9]; rfl
end Go.Proofs.Ytjnbdikhajnciaa.Dig
