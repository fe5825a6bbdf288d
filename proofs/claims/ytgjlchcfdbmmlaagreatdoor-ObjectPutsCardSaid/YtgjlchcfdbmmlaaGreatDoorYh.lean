/- Texts of one proof, joined: Ds, ZUF, ZOL, ZOM, ZON, ZOO, ZOP, ZOQ, ZOR, ZOT, ZY, ZZ, ZOU, ZOV, ZSB, ZOX, ZT, ZOZ. -/
import Derived.Test.YtgjlchcfdbmmlaaGreatDoorYg
import Derived.Test.YtgjlchcfdbmmlaaGreatDoorYf
import Derived.Test.YtgjlchcfdbmmlaaGreatDoorYd
import Derived.Deep.Slices
import Derived.Test.YtgjlchcfdbmmlaaGreatDoorYe
import Derived.Test.YtgjlchcfdbmmlaaGreatDoorYc
import Derived.ChangeArms
import Derived.DataReads
import Derived.WideShapes
import Derived.Test.YtgjlchcfdbmmlaaGreatDoorRows
import Derived.Lib.LaidU8
import Derived.SliceStrings
set_option linter.unusedSimpArgs false
set_option linter.unusedVariables false
namespace Go.Proofs.YtgjlchcfdbmmlaaGreatDoor.Dig
open Go.RowKit Go.Proofs.YtgjlchcfdbmmlaaGreatDoor.Sha Go.Proofs.YtgjlchcfdbmmlaaGreatDoor.Ord Go.Proofs.YtgjlchcfdbmmlaaGreatDoorW.PrintWords Go.Proofs.YtgjlchcfdbmmlaaGreatDoor.Base

/-- The bytes of the first k words. -/
def outOf (x : S8) (k : Nat) : List UInt8 := ((S8.words x).take k).flatMap Sha.bytesOf
theorem outOf_succ (x : S8) (k : Nat) (hk : k < 8) : outOf x (k + 1) = outOf x k ++ Sha.bytesOf ((S8.words x).getD k 0) := by
  unfold outOf
  have h : k < (S8.words x).length := by simpa [S8.words] using hk
  rw [List.take_succ_eq_append_getElem h, List.flatMap_append]
  simp [List.getD_eq_getElem?_getD, h]
theorem outOf_full (x : S8) : outOf x 8 = x.bytes := by simp [outOf, S8.words, S8.bytes]
/-- The round's world: the state in block g. -/
structure Fn (w wr : World) (x : S8) : Prop where
  row : Row 93 wr w.heap.size (S8.words x)
  below : Below w.heap.size w wr
theorem Fn.later {w wr w' : World} {x : S8} (h : Fn w wr x) (hb : Below wr.heap.size wr w') : Fn w w' x :=
  ⟨h.row.below hb h.row.lt, h.below.trans (hb.mono (by have := h.row.lt; omega))⟩

set_option maxRecDepth 100000 in
set_option maxHeartbeats 8000000 in
theorem refsum_any (s : ByteArray) (hs : s.size ≤ 800000) (w : World) :
    Calls Tryz.prog 23 #[.string s] w fun e w' => e = .returned (.string ⟨(sum s.data.toList).toArray⟩) ∧ Below w.heap.size w w' := by
  obtain ⟨all, hall⟩ : ∃ t : ByteArray, t = ⟨(s.data.toList ++ tail s.size).toArray⟩ := ⟨_, rfl⟩
  have hsz : all.size = 64 * (all.size / 64) ∧ all.size ≤ 1000000 := by
    have h := tail_len s.size
    have h2 : all.size = s.size + (tail s.size).length := by rw [hall, ba_size, List.length_append]; simp
    omega
  have hsum : sum s.data.toList = (run init (all.size / 64) all.data.toList).bytes := by
    have h2 : all.size = s.size + (tail s.size).length := by rw [hall, ba_size, List.length_append]; simp
    rw [h2, hall]
    simp [sum]
  have cp : ∀ w, Calls Tryz.prog 44 #[.string s] w fun e w' => e = .returned (.string all) ∧ NewMem w w' := fun w => by rw [hall]; exact padded_any s hs w
  obtain ⟨N, hN⟩ : ∃ N : Nat, N = all.size / 64 := ⟨_, rfl⟩
  rw [← hN] at hsz hsum
  obtain ⟨hsz1, hsz2⟩ := hsz
  have CP := Lib.hid cp
  have HSUM := Lib.hid hsum
  have HSZ := Lib.hid hsz1
  clear cp hsum hall hN hsz1
  go_enter Tryz.func23, Tryz.ntmps23
  go_wp2_with fail
  refine (CP.out _).mono ?_
  rintro e w1 ⟨rfl, hb1⟩
  have hn0 : NewMem w (w.alloc (.cells #[.int .u32 1779033703, .int .u32 3144134277, .int .u32 1013904242, .int .u32 2773480762, .int .u32 1359893119, .int .u32 2600822924, .int .u32 528734635, .int .u32 1541459225] 93)) := NewMem.alloc _ _
  have hF : Fn w w1 init := ⟨(hb1.block _ (by simp)).trans (heap_alloc_last w _), hn0.trans hb1⟩
  clear hb1 hn0
  go_wp2_with fail
  go_loopw [5] (fun i wr => ∃ q k : Nat, k ≤ N ∧ i = .int .i64 (q : Int) ∧ Hid (q = 64 * k) ∧ ∃ x, Hid (x = run init k all.data.toList) ∧ Fn w wr x) (fun i _ => all.size - (intOf i).toNat)
  case atStart => exact ⟨0, 0, by omega, rfl, Lib.hid rfl, init, Lib.hid rfl, hF⟩
  case round =>
    clear hF
    obtain ⟨q, k, hk, rfl, hq, x, hx, hF⟩ := hrel
    have hq' := hq.out
    have hsz' := HSZ.out
    obtain ⟨q2, hq2⟩ : ∃ q2 : Nat, q2 = q + 64 := ⟨_, rfl⟩
    have e0 : IntKind.i64.wrap ((q : Int) + 64) = (q2 : Int) := by rw [IntKind.wrap_i64]; omega
    by_cases hlt : k < N
    · have e1 : (q2 : Int) ≤ (all.size : Int) := by omega
      have e2 : (q : Int) ≤ (q2 : Int) := by omega
      have HQ2 := Lib.hid hq2
      obtain ⟨bl, hbl⟩ : ∃ b : ByteArray, all.extract q q2 = b := ⟨_, rfl⟩
      have hbs : bl.size = 64 := by rw [← hbl]; simp [ByteArray.size_extract]; omega
      have HBS := Lib.hid hbs
      have hcut : bl.data.toList = (all.data.toList.drop (64 * k)).take 64 := by
        rw [← hbl, hq2, hq', Lib.extract_data]; congr 1; omega
      obtain ⟨nx, hnx⟩ : ∃ y : S8, y = turn x bl.data.toList := ⟨_, rfl⟩
      have hz : nx = run init (k + 1) all.data.toList := by rw [hnx, hcut, run_add init k 1, hx.out]; rfl
      have ct := refturn_any x bl hbs
      rw [← hnx] at ct
      have CT := Lib.hid ct
      have HZ := Lib.hid hz
      clear hq' hq2 hbs hsz' hcut hz ct hnx
      go_wp2_with fail
      refine wp_region_any (by kernel_rfl) ?_
      change wpAny _ _ _ _ _ _ _ wr.drew
      refine wpAny_take (i := 1) (v := .string all) rfl (by kernel_rfl) (by kernel_rfl) (by kernel_rfl) (fun _ _ _ h => h) (Or.inl ⟨by rfl, fun wx => by go_simp⟩) ?_
      refine wpAny_take (i := 2) (v := .int .i64 (q : Int)) rfl (by kernel_rfl) (by kernel_rfl) (by kernel_rfl) (fun _ _ _ h => h) (Or.inl ⟨by rfl, fun wx => by go_simp⟩) ?_
      refine wpAny_take (i := 3) (v := .int .i64 (q : Int)) rfl (by kernel_rfl) (by kernel_rfl) (by kernel_rfl) (fun _ _ _ h => h) (Or.inl ⟨by rfl, fun wx => by go_simp⟩) ?_
      refine wpAny_take (i := 4) (v := .int .i64 (q2 : Int)) rfl (by kernel_rfl) (by kernel_rfl) (by kernel_rfl) (fun _ _ _ h => h) (Or.inl ⟨by rfl, fun wx => by go_simp⟩) ?_
      refine wpAny_take (i := 5) (v := .string bl) rfl (by kernel_rfl) (by kernel_rfl) (by kernel_rfl) (fun _ _ _ h => h) (Or.inl ⟨by rfl, fun wx => by go_simp⟩) ?_
      refine any_one (i := 0) (by kernel_rfl) ?_
      refine wpOp_value (v := .agg x.cells.toArray) (w' := wr.drew) rfl rfl (exec_load_row 93 _ rfl w.heap.size rfl _ _ _ _ hF.row Tryz.underlying93 rfl (by rw [info34]; rfl)) ?_
      refine any_one (i := 6) (by kernel_rfl) ?_
      refine wpOp_at rfl rfl (fun K0 hK0 => ?_)
      go_frame
      go_simp
      refine (CT.out _).mono ?_
      rintro e w3 ⟨rfl, hb3⟩
      refine hK0 _ _ ?_
      clear hK0 K0
      have h0 : Row 93 w3 w.heap.size (S8.words x) := (hF.row.drew).below hb3 hF.row.lt
      refine any_one (i := 7) (by kernel_rfl) ?_
      refine wpOp_skip (w' := w3.setRow w.heap.size nx.cells.toArray) rfl rfl (exec_store_row 93 _ _ rfl w.heap.size _ rfl rfl _ _ h0 (by rw [info34]; rfl) (by simp [Us, S8.words, S8.cells]) (S8.all _)) ?_
      refine wpAny_done (by kernel_rfl) ?_ _
      simp only [List.getElem_toArray, List.getElem_cons_succ, List.getElem_cons_zero]
      go_frame
      go_wp2_with fail
      go_roundw
      case rel =>
        refine ⟨q2, k + 1, by omega, rfl, Lib.hid (by have := HQ2.out; have := hq.out; omega), nx, HZ, ?_⟩
        exact ⟨setRow_heap _ _ _ _ _ _ h0, hF.below.trans ((bdN' (n := 1) (Below.refl _ _)).trans ((hb3.mono (by have := hF.row.lt; show w.heap.size ≤ wr.heap.size; omega)).trans ⟨rfl, rfl, rfl, by simp, fun j hj => setRow_other _ _ _ _ (by omega)⟩))⟩
      case measure => have := HQ2.out; simp only [intOf]; omega
    · have e1 : ¬ ((q2 : Int) ≤ (all.size : Int)) := by omega
      have hkN : k = N := by omega
      have hxe : x = run init N all.data.toList := by rw [← hkN]; exact hx.out
      have HX := Lib.hid hxe
      clear hxe hkN hq' hq2 hsz' hx hq
      go_wp2_with fail
      go_loopw [6, 7] (fun v i wr => ∃ j : Nat, j ≤ 8 ∧ i = .int .i64 (j : Int) ∧ ∃ t : ByteArray, v = .string t ∧ Hid (t = ⟨(outOf x j).toArray⟩) ∧ Hid (t.size = 4 * j) ∧ Fn w wr x) (fun _ i _ => 8 - (intOf i).toNat)
      case atStart => exact ⟨0, by omega, rfl, ⟨#[]⟩, rfl, Lib.hid rfl, Lib.hid rfl, hF⟩
      case round =>
        clear hF
        obtain ⟨j, hj, rfl, t, rfl, ht, htz, hF⟩ := hrel
        by_cases hlt2 : j < 8
        · have jb : (j : Int) < 8 := by omega
          have cj := hF.row.cell j (by simpa [S8.words] using hlt2)
          have ob := outOf_succ x j hlt2
          generalize (S8.words x).getD j 0 = vj at cj ob
          obtain ⟨tb, htb⟩ : ∃ b : ByteArray, b = ⟨(Sha.bytesOf vj).toArray⟩ := ⟨_, rfl⟩
          have cb := refbytes_any vj
          rw [← htb] at cb
          have hb4 : tb.size = 4 := by rw [htb]; rfl
          have htz' := htz.out
          have kadd : ¬ (9223372036854775807 < t.size + tb.size) := by omega
          have hnew : t ++ tb = ⟨(outOf x (j + 1)).toArray⟩ := by rw [ob, ht.out, htb, ba_app]
          have hnz : (t ++ tb).size = 4 * (j + 1) := by simp; omega
          have CB := Lib.hid cb
          have HNEW := Lib.hid hnew
          have HNZ := Lib.hid hnz
          clear cb hnew hnz htz' hb4 htb ob ht htz
          go_wp2_with fail
          refine (CB.out _).mono ?_
          rintro e w4 ⟨rfl, hb4⟩
          have hF4 := hF.later hb4
          clear cj hF
          go_wp2_with fail
          go_roundw
          case rel => exact ⟨j + 1, by omega, by simp, t ++ tb, rfl, HNEW, HNZ, hF4⟩
          case measure => simp only [intOf]; omega
        · have hj8 : j = 8 := by omega
          subst hj8
          go_wp2_with fail
          go_ret
          refine ⟨?_, hF.below⟩
          have e9 : t = ⟨(sum s.data.toList).toArray⟩ := by rw [ht.out, outOf_full, HSUM.out, ← HX.out]
          rw [← e9]; rfl
end Go.Proofs.YtgjlchcfdbmmlaaGreatDoor.Dig
namespace Go.Proofs.YtgjlchcfdbmmlaaGreatDoor.PObjectPuts
open Go.RowKit Go.Proofs.YtgjlchcfdbmmlaaGreatDoor.Ord Go.Proofs.YtgjlchcfdbmmlaaGreatDoor.Obj Go.Proofs.YtgjlchcfdbmmlaaGreatDoorW.PrintWords Go.Proofs.YtgjlchcfdbmmlaaGreatDoorW.PrintLast Go.Proofs.YtgjlchcfdbmmlaaGreatDoorW.PrintMore
attribute [local irreducible] OpGives

theorem ok_lens {o : Ob} (h : okOb o = true) (hw : wfOb o) : o.rows.length ≤ 1000000 ∧ o.kids.length ≤ 1000000 ∧ o.parents.length ≤ 1000000 := by
  unfold okOb at h
  split at h
  · have p := okNode_parts h
    have h1 := (okRows_parts p.rows).1
    have h2 := kids_len p.kids hw.kids
    rw [p.par]
    exact ⟨by omega, by omega, by simp⟩
  · split at h
    · have p := okCommit_parts h
      have h3 := p.len
      rw [p.rows, p.kids]
      exact ⟨by simp, by simp, by omega⟩
    · cases h
theorem puts7_calls {x : S38} (h : Fine 16 5000 x) (A : Option Addr) (c : Nat) (w : World) (hA : Kd.C k38 w A x.f3.length x.f3) (hc : x.f3.length ≤ c) :
    Calls Tryz.prog 20 #[.agg #[.int .i64 x.f0, .int .i64 x.f1, .string x.f2, .slice A x.f3.length c]] w fun e w' => e = .returned (.string (byL (encS x))) ∧ Below w.heap.size w w' := by
  obtain ⟨k, hk⟩ := (Puts_any x h.wf (Nat.le_trans h.pt (by decide))).rounds
  exact fastiref04_Puts.calls k x.f0 x.f1 x.f2 A c x.f3 _ w hA hc hk
set_option maxRecDepth 100000 in
theorem dcheck_calls (o : Ob) (Ar : Option Addr) (cr : Nat) (Ak : Option Addr) (ck : Nat) (Ap : Option Addr) (cp : Nat) (w : World) (hO : ObAt w o Ar cr Ak ck Ap cp) (hk : o.kids.length ≤ 9223372036854775807) :
    Calls Tryz.prog 14 #[.agg (obV o Ar cr Ak ck Ap cp)] w fun e w' => e = .returned (.int .i64 (errO (okOb o))) ∧ Below w.heap.size w w' := by
  obtain ⟨W1, hW1⟩ : ∃ W1, W1 = w.alloc (.cells (obV o Ar cr Ak ck Ap cp) 27) := ⟨_, rfl⟩
  have hn1 : Below w.heap.size w W1 := by rw [hW1]; exact (Below.refl _ _).alloc (Nat.le_refl _) _
  have hg1 : W1.heap[w.heap.size]? = some (.cells (obV o Ar cr Ak ck Ap cp) 27 (0, 0)) := by rw [hW1]; exact alloc_lastV _ _
  have HR := Lib.hid (right7_calls o Ar cr Ak ck Ap cp W1 (hO.below hn1) hk)
  have HN1 := Lib.hid hn1
  unfold obV at hg1 hW1 HR ⊢
  obtain ⟨⟨b0, b1, b2, b3⟩, b4, b5, b6, b7⟩ := box8 hg1
  rw [hW1] at b0 b1 b2 b3 b4 b5 b6 b7
  have HW1 := Lib.hid hW1
  generalize okOb o = ok at HR ⊢
  clear hW1 hn1 hg1 hO
  unfold errO
  cases ok with
  | false =>
    go_enter Tryz.func14, Tryz.ntmps14
    go_wp2_with fail
    rw [← HW1.out]
    clear b0 b1 b2 b3 b4 b5 b6 b7
    refine HR.out.mono ?_
    rintro e W2 ⟨rfl, hb2⟩
    have HF := Lib.hid (HN1.out.trans (hb2.mono HN1.out.size))
    clear hb2
    go_wp2_with fail
    go_ret
    exact ⟨rfl, HF.out⟩
  | true =>
    go_enter Tryz.func14, Tryz.ntmps14
    go_wp2_with fail
    rw [← HW1.out]
    clear b0 b1 b2 b3 b4 b5 b6 b7
    refine HR.out.mono ?_
    rintro e W2 ⟨rfl, hb2⟩
    have HF := Lib.hid (HN1.out.trans (hb2.mono HN1.out.size))
    clear hb2
    go_wp2_with fail
    go_ret
    exact ⟨rfl, HF.out⟩
set_option maxRecDepth 100000 in
set_option maxHeartbeats 4000000 in
theorem dput_calls (o : Ob) (Ar : Option Addr) (cr : Nat) (Ak : Option Addr) (ck : Nat) (Ap : Option Addr) (cp : Nat) (w : World) (hO : ObAt w o Ar cr Ak ck Ap cp) (hw : wfOb o) (hkx : o.kids.length ≤ 9223372036854775807) :
    Calls Tryz.prog 7 #[.agg (obV o Ar cr Ak ck Ap cp)] w fun e w' => e = .returned (.tuple #[.string (putS o), .int .i64 (errO (okOb o))]) ∧ Below w.heap.size w w' := by
  obtain ⟨W1, hW1⟩ : ∃ W1, W1 = w.alloc (.cells (obV o Ar cr Ak ck Ap cp) 27) := ⟨_, rfl⟩
  have hn1 : Below w.heap.size w W1 := by rw [hW1]; exact (Below.refl _ _).alloc (Nat.le_refl _) _
  have hg1 : W1.heap[w.heap.size]? = some (.cells (obV o Ar cr Ak ck Ap cp) 27 (0, 0)) := by rw [hW1]; exact alloc_lastV _ _
  have HR := Lib.hid (right7_calls o Ar cr Ak ck Ap cp W1 (hO.below hn1) hkx)
  have HSH := Lib.hid (fun (hk : okOb o = true) W (h : Below w.heap.size w W) => shape_calls o Ar cr Ak ck Ap cp W (hO.below h) (ok_lens hk hw).1 (ok_lens hk hw).2.1 (ok_lens hk hw).2.2 hw.kids)
  have HFI := Lib.hid (fun (h : okOb o = true) => fine_ob h hw)
  have HN1 := Lib.hid hn1
  have hg1' := hg1
  unfold obV at hg1' hW1 HR HSH ⊢
  obtain ⟨⟨b0, b1, b2, b3⟩, b4, b5, b6, b7⟩ := box8 hg1'
  rw [hW1] at b0 b1 b2 b3 b4 b5 b6 b7
  have HW1 := Lib.hid hW1
  have HG1 := Lib.hid hg1'
  unfold putS bytesOf
  generalize okOb o = ok at HR HSH HFI ⊢
  generalize cellOf o = x at HSH HFI ⊢
  clear hW1 hn1 hg1 hg1' hO hw
  unfold errO
  cases ok with
  | false =>
    simp only [Bool.false_eq_true, if_false]
    go_enter Tryz.func7, Tryz.ntmps7
    go_wp2_with fail
    rw [← HW1.out]
    clear b0 b1 b2 b3 b4 b5 b6 b7
    refine HR.out.mono ?_
    rintro e W2 ⟨rfl, hb2⟩
    have HF := Lib.hid (HN1.out.trans (hb2.mono HN1.out.size))
    clear hb2
    go_wp2_with fail
    go_ret2
    exact ⟨rfl, HF.out⟩
  | true =>
    simp only [if_true]
    go_enter Tryz.func7, Tryz.ntmps7
    go_wp2_with fail
    rw [← HW1.out]
    clear b0 b1 b2 b3 b4 b5 b6 b7
    refine HR.out.mono ?_
    rintro e W2 ⟨rfl, hb2⟩
    have HF := Lib.hid (HN1.out.trans (hb2.mono HN1.out.size))
    obtain ⟨⟨b0, b1, b2, b3⟩, b4, b5, b6, b7⟩ := box8 ((hb2.block _ (Array.getElem?_eq_some_iff.1 HG1.out).1).trans HG1.out)
    clear hb2
    go_wp2_with fail
    clear b0 b1 b2 b3 b4 b5 b6 b7
    refine (HSH.out (by first | rfl | trivial) W2 HF.out).mono ?_
    rintro e W3 ⟨u, rfl, ⟨v3, rfl, hR3⟩, hb3⟩
    obtain ⟨A3, c3, rfl⟩ := R_slice hR3
    obtain ⟨_, hc3, hC3⟩ := Kd.R_reads' hR3
    have HP := Lib.hid (puts7_calls (HFI.out (by first | rfl | trivial)) A3 c3 W3 hC3 hc3)
    have HF3 := Lib.hid (HF.out.trans (hb3.mono HF.out.size))
    clear hb3 hR3 hc3 hC3
    go_wp2_with fail
    refine HP.out.mono ?_
    rintro e W4 ⟨rfl, hb4⟩
    have HF4 := Lib.hid (HF3.out.trans (hb4.mono HF3.out.size))
    clear hb4
    go_wp2_with fail
    go_ret2
    exact ⟨rfl, HF4.out⟩
set_option maxRecDepth 100000 in
set_option maxHeartbeats 4000000 in
theorem did_calls (o : Ob) (Ar : Option Addr) (cr : Nat) (Ak : Option Addr) (ck : Nat) (Ap : Option Addr) (cp : Nat) (w : World) (hO : ObAt w o Ar cr Ak ck Ap cp) (hw : wfOb o) (hkx : o.kids.length ≤ 9223372036854775807) :
    Calls Tryz.prog 9 #[.agg (obV o Ar cr Ak ck Ap cp)] w fun e w' => e = .returned (.tuple #[.string (idS o), .int .i64 (errO (okOb o))]) ∧ Below w.heap.size w w' := by
  obtain ⟨W1, hW1⟩ : ∃ W1, W1 = w.alloc (.cells (obV o Ar cr Ak ck Ap cp) 27) := ⟨_, rfl⟩
  have hn1 : Below w.heap.size w W1 := by rw [hW1]; exact (Below.refl _ _).alloc (Nat.le_refl _) _
  have hg1 : W1.heap[w.heap.size]? = some (.cells (obV o Ar cr Ak ck Ap cp) 27 (0, 0)) := by rw [hW1]; exact alloc_lastV _ _
  have HP := Lib.hid (dput_calls o Ar cr Ak ck Ap cp W1 (hO.below hn1) hw hkx)
  have HSUM := Lib.hid (fun (h : okOb o = true) W => by
    have hz : (bytesOf o).size ≤ 800000 := by rw [Lib.size_eq]; exact Nat.le_trans (fine_ob h hw).enc (by decide)
    have := Dig.refsum_any (bytesOf o) hz W
    rw [show (bytesOf o).data.toList = encS (cellOf o) from rfl] at this
    exact this)
  have HN1 := Lib.hid hn1
  unfold obV at hg1 hW1 HP ⊢
  obtain ⟨⟨b0, b1, b2, b3⟩, b4, b5, b6, b7⟩ := box8 hg1
  rw [hW1] at b0 b1 b2 b3 b4 b5 b6 b7
  have HW1 := Lib.hid hW1
  unfold putS at HP
  unfold idS
  generalize encS (cellOf o) = E at HSUM ⊢
  generalize bytesOf o = B at HP HSUM
  generalize okOb o = ok at HP HSUM ⊢
  clear hW1 hn1 hg1 hO hw
  unfold errO at HP ⊢
  cases ok with
  | false =>
    simp only [Bool.false_eq_true, if_false] at HP ⊢
    go_enter Tryz.func9, Tryz.ntmps9
    go_wp2_with fail
    rw [← HW1.out]
    clear b0 b1 b2 b3 b4 b5 b6 b7
    refine HP.out.mono ?_
    rintro e W2 ⟨rfl, hb2⟩
    have HF := Lib.hid (HN1.out.trans (hb2.mono HN1.out.size))
    clear hb2
    go_wp2_with fail
    go_ret2
    exact ⟨rfl, HF.out⟩
  | true =>
    simp only [if_true] at HP ⊢
    go_enter Tryz.func9, Tryz.ntmps9
    go_wp2_with fail
    rw [← HW1.out]
    clear b0 b1 b2 b3 b4 b5 b6 b7
    refine HP.out.mono ?_
    rintro e W2 ⟨rfl, hb2⟩
    have HF := Lib.hid (HN1.out.trans (hb2.mono HN1.out.size))
    have HS2 := Lib.hid (HSUM.out (by first | rfl | trivial) W2)
    clear hb2
    go_wp2_with fail
    refine HS2.out.mono ?_
    rintro e W3 ⟨rfl, hb3⟩
    have HF3 := Lib.hid (HF.out.trans (hb3.mono HF.out.size))
    clear hb3
    go_wp2_with fail
    go_ret2
    exact ⟨rfl, HF3.out⟩
set_option maxRecDepth 100000 in
theorem results_dpr (tmps : Array Value) (w : World) (c : Nat) (a0 a1 a2 a3 : Value) (h2 : tmps.getD 2 undef = .pointer (some ⟨c, 0, none⟩))
    (hc : w.heap[c]? = some (.cells #[a0, a1, a2, a3] 38 (0, 0))) :
    (results Tryz.f11 tmps).run Tryz.prog w = .ok (.tuple #[.agg #[a0, a1, a2, a3], tmps.getD 3 undef]) w := by
  have h2' : tmps[2]?.getD undef = .pointer (some ⟨c, 0, none⟩) := by simpa using h2
  have k0 : w.cell? ⟨c, 0, none⟩ = some a0 := by rw [Lib.cell_of_heap hc]; rfl
  have k1 : w.cell? ⟨c, 1, none⟩ = some a1 := by rw [Lib.cell_of_heap hc]; rfl
  have k2 : w.cell? ⟨c, 2, none⟩ = some a2 := by rw [Lib.cell_of_heap hc]; rfl
  have k3 : w.cell? ⟨c, 3, none⟩ = some a3 := by rw [Lib.cell_of_heap hc]; rfl
  simp [results, Tryz.results11, h2', asAddr, k0, k1, k2, k3, go_sem]
set_option maxRecDepth 100000 in
set_option maxHeartbeats 4000000 in
theorem dputrows_calls (l : List S50) (A : Option Addr) (c : Nat) (w : World) (hA : Kd.C k50 w A l.length l) (hc : l.length ≤ c) :
    Calls Tryz.prog 11 #[.slice A l.length c] w fun e w' => ∃ u, e = .returned (.tuple #[u, .int .i64 (errO (okRows l))]) ∧ cellF w.heap.size (rowsR l) u w' ∧ Below w.heap.size w w' := by
  obtain ⟨W1, hW1⟩ : ∃ W1, W1 = w.alloc (.cells #[.int .i64 0, .int .i64 0, .string (⟨#[]⟩ : ByteArray), .slice none 0 0] 38) := ⟨_, rfl⟩
  have hn1 : Below w.heap.size w W1 := by rw [hW1]; exact (Below.refl _ _).alloc (Nat.le_refl _) _
  have hg1 : W1.heap[w.heap.size]? = some (.cells #[.int .i64 0, .int .i64 0, .string (⟨#[]⟩ : ByteArray), .slice none 0 0] 38 (0, 0)) := by rw [hW1]; exact alloc_lastV _ _
  have hs1 : W1.heap.size = w.heap.size + 1 := by rw [hW1]; simp
  have HS := Lib.hid (rright_calls l A c W1 (Kd.C_below hA hn1) hc)
  have HN1 := Lib.hid hn1
  have HG1 := Lib.hid hg1
  have HS1 := Lib.hid hs1
  have HA := Lib.hid (Kd.C_below hA hn1)
  have HW1 := Lib.hid hW1
  unfold rowsR errO
  have hrl : okRows l = true → l.length ≤ 1000000 := fun h => by have := (okRows_parts h).1; omega
  have HRL := Lib.hid hrl
  generalize okRows l = ok at *
  clear hW1 hn1 hg1 hs1 hA hrl
  cases ok with
  | false =>
    go_enter Tryz.func11, Tryz.ntmps11
    go_wp2_with fail
    rw [← HW1.out]
    refine HS.out.mono ?_
    rintro e W2 ⟨rfl, hb2⟩
    have hg2 := (hb2.block _ (Array.getElem?_eq_some_iff.1 HG1.out).1).trans HG1.out
    have hbw : Below w.heap.size w W2 := HN1.out.trans (hb2.mono HN1.out.size)
    obtain ⟨⟨z0, z1, z2, z3⟩, f0, f1, f2, f3⟩ := box4 hg2
    have HG2 := Lib.hid hg2
    have HBW := Lib.hid hbw
    clear hg2 hbw hb2
    go_wp2_with fail
    refine bodyPost_ret (results_dpr _ _ w.heap.size _ _ _ _ rfl (four_put HG2.out _ _ _ _)) rfl ?_
    exact ⟨_, rfl, ⟨_, rfl, Kd.R_nil _ _ _ _ _⟩, put4_below HBW.out _ _ _ _⟩
  | true =>
    go_enter Tryz.func11, Tryz.ntmps11
    go_wp2_with fail
    rw [← HW1.out]
    refine HS.out.mono ?_
    rintro e W2 ⟨rfl, hb2⟩
    have hg2 := (hb2.block _ (Array.getElem?_eq_some_iff.1 HG1.out).1).trans HG1.out
    have hbw : Below w.heap.size w W2 := HN1.out.trans (hb2.mono HN1.out.size)
    have HR := Lib.hid (rows7_calls l A c W2 (Kd.C_below HA.out hb2) hc (Nat.le_trans (HRL.out (by first | rfl | trivial)) (by decide)))
    have hs2 := hb2.size
    have HS2 := Lib.hid hs2
    have HG2 := Lib.hid hg2
    have HBW := Lib.hid hbw
    clear hg2 hbw hb2 hs2
    go_wp2_with fail
    refine HR.out.mono ?_
    rintro e W3 ⟨u, rfl, ⟨v3, rfl, hR3⟩, hb3⟩
    obtain ⟨A3, c3, rfl⟩ := R_slice hR3
    have hg3 := (hb3.block _ (Array.getElem?_eq_some_iff.1 HG2.out).1).trans HG2.out
    have hbw : Below w.heap.size w W3 := HBW.out.trans (hb3.mono HBW.out.size)
    obtain ⟨⟨z0, z1, z2, z3⟩, f0, f1, f2, f3⟩ := box4 hg3
    have HG3 := Lib.hid hg3
    have HBW3 := Lib.hid hbw
    have HR3 := Lib.hid hR3
    clear hg3 hbw hb3 hR3
    go_wp2_with fail
    refine bodyPost_ret (results_dpr _ _ w.heap.size _ _ _ _ rfl (four_put HG3.out _ _ _ _)) rfl ?_
    exact ⟨_, rfl, ⟨_, rfl, rC_put HR3.out (by have := HS2.out; have := HS1.out; omega) (by have := HS2.out; have := HS1.out; omega) _ _ _ _⟩, put4_below HBW3.out _ _ _ _⟩
end Go.Proofs.YtgjlchcfdbmmlaaGreatDoor.PObjectPuts
namespace Go.Proofs.YtgjlchcfdbmmlaaGreatDoor.PObjectPuts
open Go.RowKit Go.Proofs.YtgjlchcfdbmmlaaGreatDoor.Ord Go.Proofs.YtgjlchcfdbmmlaaGreatDoor.Obj Go.Proofs.YtgjlchcfdbmmlaaGreatDoorW.PrintWords Go.Proofs.YtgjlchcfdbmmlaaGreatDoorW.PrintLast Go.Proofs.YtgjlchcfdbmmlaaGreatDoorW.PrintMore
attribute [local irreducible] OpGives

/-- What a cell is: a number, a text, or a row of such. -/
def anyK (d : Kd S38) : Kd S38 where
  sz := 1
  E := 70 :: d.E
  K := fun w x cs => (x.f0 = 1 ∧ cs = [.iface 3 (.int .i64 x.f1)]) ∨ (x.f0 = 2 ∧ cs = [.iface 9 (.string x.f2)]) ∨ (x.f0 ≠ 1 ∧ x.f0 ≠ 2 ∧ ∃ A c, cs = [.iface 103 (.slice A x.f3.length c)] ∧ x.f3.length ≤ c ∧ d.C w A x.f3.length x.f3)
  M := fun w base ok x cs => (x.f0 = 1 ∧ cs = [.iface 3 (.int .i64 x.f1)]) ∨ (x.f0 = 2 ∧ cs = [.iface 9 (.string x.f2)]) ∨ (x.f0 ≠ 1 ∧ x.f0 ≠ 2 ∧ ∃ v, cs = [.iface 103 v] ∧ d.R 70 w base ok v x.f3)
  K_len := by
    rintro w x cs (⟨_, rfl⟩ | ⟨_, rfl⟩ | ⟨_, _, A, c, rfl, _⟩) <;> rfl
  K_one := by
    rintro w x cs (⟨_, rfl⟩ | ⟨_, rfl⟩ | ⟨_, _, A, c, rfl, _⟩) u hu <;> (rw [List.mem_singleton.1 hu]; rfl)
  K_below := by
    rintro w w1 x cs hb (⟨h, rfl⟩ | ⟨h, rfl⟩ | ⟨h1, h2, A, c, rfl, hl, hr⟩)
    · exact .inl ⟨h, rfl⟩
    · exact .inr (.inl ⟨h, rfl⟩)
    · exact .inr (.inr ⟨h1, h2, A, c, rfl, hl, Kd.C_below hr hb⟩)
  K_of_M := by
    rintro w base ok x cs (⟨h, rfl⟩ | ⟨h, rfl⟩ | ⟨h1, h2, v, rfl, hr⟩)
    · exact .inl ⟨h, rfl⟩
    · exact .inr (.inl ⟨h, rfl⟩)
    · obtain ⟨A, c, rfl, hl, hr⟩ := Kd.R_reads hr
      exact .inr (.inr ⟨h1, h2, A, c, rfl, hl, hr⟩)
  M_mono := by
    rintro w base ok ok' x cs hok (⟨h, rfl⟩ | ⟨h, rfl⟩ | ⟨h1, h2, v, rfl, hr⟩)
    · exact .inl ⟨h, rfl⟩
    · exact .inr (.inl ⟨h, rfl⟩)
    · exact .inr (.inr ⟨h1, h2, v, rfl, Kd.R_mono hr hok⟩)
  M_bound := by
    rintro w base ok x cs (⟨h, rfl⟩ | ⟨h, rfl⟩ | ⟨h1, h2, v, rfl, hr⟩)
    · exact .inl ⟨h, rfl⟩
    · exact .inr (.inl ⟨h, rfl⟩)
    · exact .inr (.inr ⟨h1, h2, v, rfl, Kd.R_bound hr⟩)
  M_move := by
    rintro w w1 base ok x cs hm (⟨h, rfl⟩ | ⟨h, rfl⟩ | ⟨h1, h2, v, rfl, hr⟩)
    · exact .inl ⟨h, rfl⟩
    · exact .inr (.inl ⟨h, rfl⟩)
    · exact .inr (.inr ⟨h1, h2, v, rfl, Kd.R_move hr hm⟩)
  M_lower := by
    rintro w base base' ok x cs hb (⟨h, rfl⟩ | ⟨h, rfl⟩ | ⟨h1, h2, v, rfl, hr⟩)
    · exact .inl ⟨h, rfl⟩
    · exact .inr (.inl ⟨h, rfl⟩)
    · exact .inr (.inr ⟨h1, h2, v, rfl, Kd.R_lower hr hb⟩)
theorem anyK_mono : Kd.Mono anyK := by
  refine ⟨fun _ _ _ => rfl, ?_, ?_⟩
  · rintro d d' hs h w x cs (⟨h1, rfl⟩ | ⟨h1, rfl⟩ | ⟨h1, h2, A, c, rfl, hl, hr⟩)
    · exact .inl ⟨h1, rfl⟩
    · exact .inr (.inl ⟨h1, rfl⟩)
    · exact .inr (.inr ⟨h1, h2, A, c, rfl, hl, Kd.C_imp hs h hr⟩)
  · rintro d d' hs h w base ok x cs (⟨h1, rfl⟩ | ⟨h1, rfl⟩ | ⟨h1, h2, v, rfl, hr⟩)
    · exact .inl ⟨h1, rfl⟩
    · exact .inr (.inl ⟨h1, rfl⟩)
    · exact .inr (.inr ⟨h1, h2, v, rfl, Kd.R_imp hs h hr⟩)
theorem anyK_sub : Kd.Sub anyK [70] := fun d h q hq => by
  rcases List.mem_cons.1 hq with rfl | hq
  · exact List.mem_singleton.2 rfl
  · exact h q hq
theorem anyK_sz : ∀ n, (Kd.upto anyK 1 [70] n).sz = 1 := Kd.upto_sz (fun _ => rfl)
def kA : Kd S38 := Kd.fix anyK 1 [70] anyK_sz (Kd.upto_E anyK_sub)
theorem kA_open {w : World} {x : S38} {cs : List Value} (h : kA.K w x cs) : (x.f0 = 1 ∧ cs = [.iface 3 (.int .i64 x.f1)]) ∨ (x.f0 = 2 ∧ cs = [.iface 9 (.string x.f2)]) ∨ (x.f0 ≠ 1 ∧ x.f0 ≠ 2 ∧ ∃ A c, cs = [.iface 103 (.slice A x.f3.length c)] ∧ x.f3.length ≤ c ∧ kA.C w A x.f3.length x.f3) := by
  obtain ⟨n, h⟩ := h
  cases n with
  | zero => exact h.elim
  | succ n =>
    rcases h with h | h | ⟨h1, h2, A, c, e, hl, hr⟩
    · exact .inl h
    · exact .inr (.inl h)
    · exact .inr (.inr ⟨h1, h2, A, c, e, hl, Kd.fix_C hr⟩)
theorem kA_mkM {w : World} {base : Nat} {ok : Nat → Prop} {x : S38} {v : Value} (h1 : x.f0 ≠ 1) (h2 : x.f0 ≠ 2) (h : kA.R 70 w base ok v x.f3) : kA.M w base ok x [.iface 103 v] := by
  obtain ⟨n, q⟩ := Kd.fix_R_back anyK_mono h
  exact ⟨n + 1, .inr (.inr ⟨h1, h2, v, rfl, q⟩)⟩
theorem kA_int {w : World} {base : Nat} {ok : Nat → Prop} {x : S38} (h : x.f0 = 1) : kA.M w base ok x [.iface 3 (.int .i64 x.f1)] := ⟨1, .inl ⟨h, rfl⟩⟩
theorem kA_str {w : World} {base : Nat} {ok : Nat → Prop} {x : S38} (h : x.f0 = 2) : kA.M w base ok x [.iface 9 (.string x.f2)] := ⟨1, .inr (.inl ⟨h, rfl⟩)⟩
/-- A value that is what a cell is; of the call's own. -/
def anyF (base : Nat) (x : S38) (u : Value) (W : World) : Prop := kA.M W base (fun _ => True) x [u]
abbrev rA (W : World) (base : Nat) (v : Value) (l : List S38) : Prop := Kd.R kA 70 W base (fun _ => True) v l
theorem infoAny : (Tryz.prog.info? 70).map (fun i => (i.zero, i.size, i.bytes)) = some (some .nilIface, 1, 16) := by kernel_rfl
theorem anyF_one {base : Nat} {x : S38} {u : Value} {W : World} (h : anyF base x u W) : u.oneCell' = true := kA.K_one (kA.K_of_M h) u (List.mem_singleton.2 rfl)
theorem anyF_iface {base : Nat} {x : S38} {u : Value} {W : World} (h : anyF base x u W) : ∃ t p, u = .iface t p := by
  rcases kA_open (kA.K_of_M h) with ⟨_, e⟩ | ⟨_, e⟩ | ⟨_, _, A, c, e, _⟩
  · exact ⟨_, _, (List.cons.inj e).1⟩
  · exact ⟨_, _, (List.cons.inj e).1⟩
  · exact ⟨_, _, (List.cons.inj e).1⟩
/-- The append of one more. -/
theorem append_any {W : World} {b0 lo : Nat} {v u : Value} {acc : List S38} {x : S38} {g : Nat} (hR : rA W b0 v acc) (hv : ∀ k, v.ownBlock = some k → k < lo) (hb0 : b0 ≤ lo) (hgl : lo ≤ g)
    (hg : W.heap[g]? = some (.cells #[u] 70 (0, 0))) (hu : anyF lo x u W) (hn : acc.length ≤ 2513169434916) (ty : TypeId) :
    ∃ v' W', (Builtin.append_ #[103, 103] ty #[v, .slice (some ⟨g, 0, none⟩) 1 1]).run Tryz.prog W = .ok v' W' ∧ W.grownBy W' v.ownBlock ∧ rA W' b0 v' (acc ++ [x]) := by
  obtain ⟨i0, hi0, hz0, hz1, hz2⟩ := info_parts infoAny
  have h1 := anyF_one hu
  have hgs := (Array.getElem?_eq_some_iff.1 hg).1
  obtain ⟨h0, inner, hown, hreps⟩ := hR
  have hbn : (acc.length + 1) * 16 ≤ 2513169434917 * 16 := Nat.mul_le_mul (by omega) (Nat.le_refl _)
  obtain ⟨h, cap, W', hr, hown', hgr, hat, _⟩ := run_append_lies (P := Tryz.prog) W 103 ty b0 70 i0 _ 1 16 Tryz.underlying103 hi0 hz0 hz1 hz2 (by rfl) (by decide) v acc.length _ hown ⟨g, 0, none⟩ 1 1 [u]
    (by rfl) (World.news_of_block (cs := #[u]) hg) (by
      intro u' hu'
      rw [List.mem_singleton.1 hu']; exact h1) (by decide) (by unfold maxLen; omega) (by omega) (by omega) W.heap.size rfl
  have hm3 : Kd.M kA W b0 (fun k => lo ≤ k) x [u] := kA.M_lower hb0 (kA.M_mono (fun k hk => hk.2.1) (kA.M_bound hu))
  have hres := Kd.R_appended (d := kA) (e := 70) (base := b0) (ok := fun _ => True) (W := W) (w1 := W') (v := v) (v1 := .slice (some ⟨h, 0, none⟩) (acc.length + 1) cap) h0 hreps hm3 (fun k hk => ⟨trivial, fun e => by have := hv k e.symm; omega⟩) (fun k hk => trivial) hown' hgr
    (hat.elim (fun e => .inl (by rw [e]; rfl)) (fun e => .inr ⟨h, rfl, by omega⟩))
  exact ⟨_, W', hr, hgr, hres⟩
theorem grown_belowA {W W' : World} {b0 : Nat} {v : Value} {w : World} {acc : List S38} (hR : rA W b0 v acc) (h : W.grownBy W' v.ownBlock) (hb : Below b0 w W) (hs : b0 ≤ W.heap.size) : Below b0 w W' := by
  have : Below b0 W W' := ⟨h.os, h.tape, h.output, h.size, fun k hk => by
    by_cases e : some k = v.ownBlock
    · obtain ⟨_, inner, hown, _⟩ := hR
      have := own_base hown k e.symm; omega
    · exact h.block k (by omega) e⟩
  exact hb.trans this
theorem rA_own {b : Nat} {v : Value} {l : List S38} {W : World} (h : rA W b v l) : ∀ k, v.ownBlock = some k → k < W.heap.size := fun k hk => by
  obtain ⟨_, inner, ho, _⟩ := h
  exact own_lt ho k hk
def PlainPost (x : S38) (w : World) (e : Ending) (w' : World) : Prop := ∃ u, e = .returned u ∧ anyF w.heap.size x u w' ∧ Below w.heap.size w w'
theorem rA_new (W : World) (b0 : Nat) (h : b0 ≤ W.heap.size) : rA (W.alloc (.cells #[] 70)) b0 (.slice (some ⟨W.heap.size, 0, none⟩) 0 0) [] :=
  ⟨fun _ _ => trivial, [], ⟨by rfl, .inr ⟨W.heap.size, 0, #[], rfl, h, alloc_lastV _ _, Nat.le_refl _, by decide, rfl, rfl⟩⟩, Reps.none _ _⟩
mutual
/-- No list of a cell's is longer than an address space holds. -/
def lenW : S38 → Prop
  | ⟨_, _, _, l⟩ => l.length ≤ 2513169434916 ∧ lenWL l
def lenWL : List S38 → Prop
  | [] => True
  | x :: xs => lenW x ∧ lenWL xs
end
theorem lenWL_mem {l : List S38} (h : lenWL l) {x : S38} (hx : x ∈ l) : lenW x := by
  induction l with
  | nil => cases hx
  | cons y ys ih =>
    rw [lenWL] at h
    rcases List.mem_cons.1 hx with rfl | hx
    · exact h.1
    · exact ih h.2 hx
theorem lenWL_of {l : List S38} (h : ∀ x ∈ l, lenW x) : lenWL l := by
  induction l with
  | nil => rw [lenWL]; trivial
  | cons y ys ih => rw [lenWL]; exact ⟨h y List.mem_cons_self, ih fun x hx => h x (List.mem_cons_of_mem _ hx)⟩
theorem lenW_of_parts (x : S38) : parts x ≤ 1000000 → lenW x := by
  refine S38.ind (P := fun x => parts x ≤ 1000000 → lenW x) (fun x ih => ?_) x
  intro hp
  obtain ⟨k, n, s, l⟩ := x
  rw [parts] at hp
  have := partsL_len l
  rw [lenW]
  exact ⟨by omega, lenWL_of fun y hy => ih y hy (by have := partsL_mem hy; omega)⟩
set_option maxHeartbeats 8000000 in
set_option maxRecDepth 100000 in
theorem plainW_calls : ∀ (m : Nat) (x : S38), SizeOf.sizeOf x < m → ∀ (A : Option Addr) (c : Nat) (w : World), Kd.C k38 w A x.f3.length x.f3 → x.f3.length ≤ c → lenW x →
    Calls Tryz.prog 30 #[.agg #[.int .i64 x.f0, .int .i64 x.f1, .string x.f2, .slice A x.f3.length c]] w (PlainPost x w)
  | 0, x, h, A, c, w, hA, hc, hp => by omega
  | m + 1, x, h, A, c, w, hA, hc, hp => by
    have hIH := fun y h' A c w => plainW_calls m y h' A c w
    have HIH := Lib.hid hIH
    clear hIH
    obtain ⟨k, n, s, l⟩ := x
    simp only at hA hc ⊢
    rw [lenW] at hp
    obtain ⟨W1, hW1⟩ : ∃ W1, W1 = w.alloc (.cells #[.int .i64 k, .int .i64 n, .string s, .slice A l.length c] 38) := ⟨_, rfl⟩
    have hn1 : Below w.heap.size w W1 := by rw [hW1]; exact (Below.refl _ _).alloc (Nat.le_refl _) _
    have hg1 : W1.heap[w.heap.size]? = some (.cells #[.int .i64 k, .int .i64 n, .string s, .slice A l.length c] 38 (0, 0)) := by rw [hW1]; exact alloc_lastV _ _
    obtain ⟨⟨b0, b1, b2, b3⟩, _⟩ := box4 hg1
    have HN1 := Lib.hid hn1
    have HA := Lib.hid (Kd.C_below hA hn1)
    have hlp := hp.1
    rw [hW1] at b0 b1 b2 b3
    have HW1 := Lib.hid hW1
    have HS1 := Lib.hid (show W1.heap.size = w.heap.size + 1 by rw [hW1]; simp)
    clear hW1 hn1 hg1 hA
    by_cases hk1 : k = 1
    · subst hk1
      go_enter Tryz.func30, Tryz.ntmps30
      go_wp2_with fail
      rw [← HW1.out]
      go_ret
      exact ⟨_, rfl, kA_int rfl, HN1.out⟩
    · have hk1' : (k == 1) = false := by simpa using hk1
      by_cases hk2 : k = 2
      · subst hk2
        go_enter Tryz.func30, Tryz.ntmps30
        go_wp2_with fail
        rw [← HW1.out]
        go_ret
        exact ⟨_, rfl, kA_str rfl, HN1.out⟩
      · have hk2' : (k == 2) = false := by simpa using hk2
        have HK := Lib.hid (And.intro hk1 hk2)
        clear hk1 hk2
        go_enter Tryz.func30, Tryz.ntmps30
        go_wp2_with fail
        rw [← HW1.out]
        clear b0 b1 b2 b3
        obtain ⟨W2, hW2⟩ : ∃ W2, W2 = W1.alloc (.cells #[] 70) := ⟨_, rfl⟩
        have hn2 : Below W1.heap.size W1 W2 := by rw [hW2]; exact (Below.refl _ _).alloc (Nat.le_refl _) _
        have hr2 : rA W2 W1.heap.size (.slice (some ⟨W1.heap.size, 0, none⟩) 0 0) [] := by rw [hW2]; exact rA_new W1 _ (Nat.le_refl _)
        rw [HS1.out] at hr2
        have HR2 := Lib.hid hr2
        have HN2 := Lib.hid hn2
        rw [← hW2]
        clear hr2 hn2 hW2
        go_loopw [3, 22] (fun v i wr => ∃ j : Nat, i = .int .i64 (j : Int) ∧ j ≤ l.length ∧ rA wr W1.heap.size v (l.take j) ∧ Below W1.heap.size W1 wr) (fun _ i _ => l.length - (intOf i).toNat)
        case atStart => exact ⟨0, rfl, Nat.zero_le _, by rw [HS1.out]; exact HR2.out, HN2.out⟩
        case round =>
          obtain ⟨i, rfl, hi, hrow, hbe⟩ := hrel
          have HROW := Lib.hid hrow
          have HBE := Lib.hid hbe
          by_cases hil : i < l.length
          · obtain ⟨ad, A3, c3, rfl, c0, c1, c2, c3', l3, g3⟩ := at_T38 (Kd.C_below HA.out hbe) (i : Int) (by omega) (by omega)
            obtain ⟨x, hx⟩ : ∃ x, l[i]? = some x := ⟨_, List.getElem?_eq_getElem hil⟩
            have hrd : rd_T38 l (i : Int) = x := by unfold rd_T38; rw [Int.toNat_natCast, List.getD_eq_getElem?_getD, hx]; rfl
            rw [hrd] at c0 c1 c2 c3' l3 g3
            rw [Int.toNat_natCast] at c0 c1 c2 c3'
            have hpx : lenW x := lenWL_mem hp.2 (List.mem_of_getElem? hx)
            have hsz : SizeOf.sizeOf x < m := by
              have := List.sizeOf_lt_of_mem (List.mem_of_getElem? hx)
              simp at h; omega
            obtain ⟨W3, hW3⟩ : ∃ W3, W3 = wr.alloc (.cells #[.int .i64 x.f0, .int .i64 x.f1, .string x.f2, .slice A3 x.f3.length c3] 38) := ⟨_, rfl⟩
            have hn3 : Below wr.heap.size wr W3 := by rw [hW3]; exact (Below.refl _ _).alloc (Nat.le_refl _) _
            have hg3 : W3.heap[wr.heap.size]? = some (.cells #[.int .i64 x.f0, .int .i64 x.f1, .string x.f2, .slice A3 x.f3.length c3] 38 (0, 0)) := by rw [hW3]; exact alloc_lastV _ _
            have HCALL := Lib.hid (HIH.out x hsz A3 c3 W3 (Kd.C_below g3 hn3) l3 hpx)
            have HN3 := Lib.hid hn3
            have HX := Lib.hid hx
            have HLEN := Lib.hid (show (l.take i).length ≤ 2513169434916 by rw [List.length_take]; omega)
            obtain ⟨⟨d0, d1, d2, d3⟩, _⟩ := box4 hg3
            rw [hW3] at d0 d1 d2 d3
            have HW3 := Lib.hid hW3
            clear hrow hbe hrd g3 hx hpx hsz hn3 hg3 hW3
            go_wp2_with fail
            rw [← HW3.out]
            clear d0 d1 d2 d3 c0 c1 c2 c3'
            refine HCALL.out.mono ?_
            rintro e W4 ⟨u, rfl, hu, hb4⟩
            obtain ⟨tu, pu, rfl⟩ := anyF_iface hu
            have hb34 : Below wr.heap.size wr W4 := HN3.out.trans (hb4.mono HN3.out.size)
            obtain ⟨W5, hW5⟩ : ∃ W5, W5 = W4.alloc (.cells #[.iface tu pu] 70) := ⟨_, rfl⟩
            have hn5 : Below W4.heap.size W4 W5 := by rw [hW5]; exact (Below.refl _ _).alloc (Nat.le_refl _) _
            have hg5 : W5.heap[W4.heap.size]? = some (.cells #[.iface tu pu] 70 (0, 0)) := by rw [hW5]; exact alloc_lastV _ _
            have hu5 : anyF wr.heap.size x (.iface tu pu) W5 := kA.M_lower HN3.out.size (Kd.M_below hu hn5)
            have hbw : Below wr.heap.size wr W5 := hb34.trans (hn5.mono hb34.size)
            have hrW := Kd.R_below HROW.out hbw
            obtain ⟨v8, W8, hr8, hg8, hR8⟩ := append_any (b0 := W1.heap.size) (lo := wr.heap.size) hrW (rA_own HROW.out) HBE.out.size (Nat.le_trans HN3.out.size hb4.size) hg5 hu5 HLEN.out 103
            have hB8 := grown_belowA hrW hg8 (HBE.out.trans (hbw.mono HBE.out.size)) (Nat.le_trans HBE.out.size hbw.size)
            have hR8' : rA W8 W1.heap.size v8 (l.take (i + 1)) := by
              rw [List.take_add_one, HX.out]; exact hR8
            have ho1 := anyF_one hu5
            have HR8 := Lib.hid hR8'
            have HB8 := Lib.hid hB8
            rw [hW5] at hr8
            have HAPP := Lib.hid hr8
            clear hg8 hR8 hR8' hB8 hrW hbw hu5 hg5 hn5 hW5 hb34 hb4 hu hr8
            go_wp2_with (refine wpList_value rfl (exec_append _ _ 103 rfl HAPP.out) ?_)
            go_roundw
            case rel => exact ⟨i + 1, by go_num, hil, HR8.out, HB8.out⟩
            case measure => simp [intOf]; omega
          · have hie : i = l.length := by omega
            rw [hie, List.take_length] at hrow
            have HROW2 := Lib.hid hrow
            clear hrow hie hbe
            go_wp2_with fail
            go_ret
            exact ⟨_, rfl, kA_mkM HK.out.1 HK.out.2 (Kd.R_lower HROW2.out HN1.out.size), HN1.out.trans (HBE.out.mono HN1.out.size)⟩
theorem plain_calls (m : Nat) (x : S38) (h : SizeOf.sizeOf x < m) (A : Option Addr) (c : Nat) (w : World) (hA : Kd.C k38 w A x.f3.length x.f3) (hc : x.f3.length ≤ c) (hp : parts x ≤ 1000000) :
    Calls Tryz.prog 30 #[.agg #[.int .i64 x.f0, .int .i64 x.f1, .string x.f2, .slice A x.f3.length c]] w (PlainPost x w) := plainW_calls m x h A c w hA hc (lenW_of_parts x hp)
end Go.Proofs.YtgjlchcfdbmmlaaGreatDoor.PObjectPuts
namespace Go.Proofs.YtgjlchcfdbmmlaaGreatDoor.PObjectPuts
open Go.RowKit Go.Proofs.YtgjlchcfdbmmlaaGreatDoor.Ord Go.Proofs.YtgjlchcfdbmmlaaGreatDoor.Obj Go.Proofs.YtgjlchcfdbmmlaaGreatDoorW.PrintWords Go.Proofs.YtgjlchcfdbmmlaaGreatDoorW.PrintLast Go.Proofs.YtgjlchcfdbmmlaaGreatDoorW.PrintMore
attribute [local irreducible] OpGives

abbrev AnyAt (w : World) (x : S38) (u : Value) : Prop := kA.K w x [u]
theorem AnyAt.below {w w' : World} {x : S38} {u : Value} (h : AnyAt w x u) (hb : Below w.heap.size w w') : AnyAt w' x u := kA.K_below hb h
/-- What a cell can be, in a value's words. -/
theorem any_cases {w : World} {x : S38} {u : Value} (h : AnyAt w x u) :
    (x.f0 = 1 ∧ u = .iface 3 (.int .i64 x.f1)) ∨ (x.f0 = 2 ∧ u = .iface 9 (.string x.f2)) ∨ (x.f0 ≠ 1 ∧ x.f0 ≠ 2 ∧ ∃ A c, u = .iface 103 (.slice A x.f3.length c) ∧ x.f3.length ≤ c ∧ kA.C w A x.f3.length x.f3) := by
  rcases kA_open h with ⟨h1, e⟩ | ⟨h1, e⟩ | ⟨h1, h2, A, c, e, hl, hC⟩
  · exact .inl ⟨h1, (List.cons.inj e).1⟩
  · exact .inr (.inl ⟨h1, (List.cons.inj e).1⟩)
  · exact .inr (.inr ⟨h1, h2, A, c, (List.cons.inj e).1, hl, hC⟩)
theorem any_at {w : World} {A : Option Addr} {l : List S38} {i : Nat} {x : S38} (h : kA.C w A l.length l) (hx : l[i]? = some x) :
    ∃ ad u, A = some ad ∧ w.cell? (ad.add i) = some u ∧ AnyAt w x u ∧ (ad.add i).block < w.heap.size := by
  have hi : i < l.length := (List.getElem?_eq_some_iff.1 hx).1
  obtain ⟨ad, c, e, hcl, hK, hc0⟩ := Kd.C_get h z38 (i : Int) (by omega) (by omega)
  have hrd : l.getD (i : Int).toNat z38 = x := by rw [Int.toNat_natCast, List.getD_eq_getElem?_getD, hx]; rfl
  rw [hrd] at hK
  have h1 : c.length = 1 := hcl
  obtain ⟨u, rfl⟩ : ∃ u, c = [u] := by
    match c, h1 with
    | [u], _ => exact ⟨u, rfl⟩
  have h0 := hc0 0 u rfl
  rw [Int.toNat_natCast, show kA.sz = 1 from rfl, Nat.mul_one, Nat.add_zero] at h0
  exact ⟨ad, u, e, h0, hK, block_lt_of_cell h0⟩
def isL (x : S38) : Bool := !(decide (x.f0 = 1)) && !(decide (x.f0 = 2))
def rowD (x : S38) : Option S50 :=
  if isL x then match x.f3 with
    | [a, b, c] => if a.f0 = 1 ∧ b.f0 = 1 then (if c.f0 = 1 then some ⟨a.f1, b.f1, ⟨1, c.f1, ⟨#[]⟩⟩⟩ else if c.f0 = 2 then some ⟨a.f1, b.f1, ⟨2, 0, c.f2⟩⟩ else none) else none
    | _ => none
  else none
def rowVal (r : S50) : Value := .agg #[.int .i64 r.f0, .int .i64 r.f1, .int .i64 r.f2.f0, .int .i64 r.f2.f1, .string r.f2.f2]
def rowPost (o : Option S50) (w : World) (e : Ending) (w' : World) : Prop := e = .returned (.tuple #[rowVal (o.getD z50), .bool o.isSome]) ∧ Below w.heap.size w w'
theorem ta_ii (v : Value) (W : World) : (Instr.typeAssert (.iface 3 v) 70 3 true).run Tryz.prog W = .ok (.tuple #[v, .bool true]) W := by kernel_rfl
theorem ta_is (v : Value) (W : World) : (Instr.typeAssert (.iface 3 v) 70 9 true).run Tryz.prog W = .ok (.tuple #[.string (⟨#[]⟩ : ByteArray), .bool false]) W := by kernel_rfl
theorem ta_il (v : Value) (W : World) : (Instr.typeAssert (.iface 3 v) 70 103 true).run Tryz.prog W = .ok (.tuple #[.slice none 0 0, .bool false]) W := by kernel_rfl
theorem ta_si (v : Value) (W : World) : (Instr.typeAssert (.iface 9 v) 70 3 true).run Tryz.prog W = .ok (.tuple #[.int .i64 0, .bool false]) W := by kernel_rfl
theorem ta_ss (v : Value) (W : World) : (Instr.typeAssert (.iface 9 v) 70 9 true).run Tryz.prog W = .ok (.tuple #[v, .bool true]) W := by kernel_rfl
theorem ta_sl (v : Value) (W : World) : (Instr.typeAssert (.iface 9 v) 70 103 true).run Tryz.prog W = .ok (.tuple #[.slice none 0 0, .bool false]) W := by kernel_rfl
theorem ta_li (v : Value) (W : World) : (Instr.typeAssert (.iface 103 v) 70 3 true).run Tryz.prog W = .ok (.tuple #[.int .i64 0, .bool false]) W := by kernel_rfl
theorem ta_ls (v : Value) (W : World) : (Instr.typeAssert (.iface 103 v) 70 9 true).run Tryz.prog W = .ok (.tuple #[.string (⟨#[]⟩ : ByteArray), .bool false]) W := by kernel_rfl
theorem ta_ll (v : Value) (W : World) : (Instr.typeAssert (.iface 103 v) 70 103 true).run Tryz.prog W = .ok (.tuple #[v, .bool true]) W := by kernel_rfl
attribute [local go_sem] ta_ii ta_is ta_il ta_si ta_ss ta_sl ta_li ta_ls ta_ll
theorem alloc_two (w : World) (a b : Obj) : ((w.alloc a).alloc b).heap[w.heap.size]? = some a := (Lib.alloc_old _ _ _ (by simp)).trans (alloc_lastV _ _)
theorem results_row (tmps : Array Value) (w : World) (c : Nat) (a0 a1 a2 a3 a4 b : Value) (h2 : tmps.getD 2 undef = .pointer (some ⟨c, 0, none⟩)) (h3 : tmps.getD 3 undef = b)
    (hc : w.heap[c]? = some (.cells #[a0, a1, a2, a3, a4] 50 (0, 0))) :
    (results Tryz.f86 tmps).run Tryz.prog w = .ok (.tuple #[.agg #[a0, a1, a2, a3, a4], b]) w := by
  have h2' : tmps[2]?.getD undef = .pointer (some ⟨c, 0, none⟩) := by simpa using h2
  have h3' : tmps[3]?.getD undef = b := by simpa using h3
  obtain ⟨k0, k1, k2, k3, k4⟩ := box5 hc
  simp [results, Tryz.results86, h2', h3', asAddr, k0, k1, k2, k3, k4, go_sem]
set_option maxRecDepth 100000 in
theorem row_atom (u : Value) (w : World) (hu : (∃ v, u = .iface 3 v) ∨ ∃ v, u = .iface 9 v) : Calls Tryz.prog 86 #[u] w (rowPost none w) := by
  rcases hu with ⟨v, rfl⟩ | ⟨v, rfl⟩
  · go_enter Tryz.func86, Tryz.ntmps86
    go_wp2
    refine bodyPost_ret (results_row _ _ w.heap.size _ _ _ _ _ _ rfl rfl (alloc_lastV _ _)) rfl ?_
    exact ⟨rfl, (Below.refl _ _).alloc (Nat.le_refl _) _⟩
  · go_enter Tryz.func86, Tryz.ntmps86
    go_wp2
    refine bodyPost_ret (results_row _ _ w.heap.size _ _ _ _ _ _ rfl rfl (alloc_lastV _ _)) rfl ?_
    exact ⟨rfl, (Below.refl _ _).alloc (Nat.le_refl _) _⟩
set_option maxRecDepth 100000 in
theorem row_len (A : Option Addr) (n c : Nat) (w : World) (hn : n ≠ 3) : Calls Tryz.prog 86 #[.iface 103 (.slice A n c)] w (rowPost none w) := by
  have hn' : ((n : Int) == 3) = false := by rw [beq_eq_false_iff_ne]; omega
  go_enter Tryz.func86, Tryz.ntmps86
  go_wp2
  refine bodyPost_ret (results_row _ _ w.heap.size _ _ _ _ _ _ rfl rfl (alloc_lastV _ _)) rfl ?_
  exact ⟨rfl, (Below.refl _ _).alloc (Nat.le_refl _) _⟩
set_option maxHeartbeats 4000000 in
set_option maxRecDepth 100000 in
theorem row_is (ad : Addr) (c : Nat) (n0 : Int) (s1 : ByteArray) (u2 : Value) (w : World) (h0 : w.cell? ad = some (.iface 3 (.int .i64 n0))) (h1 : w.cell? ⟨ad.block, ad.off + 1, none⟩ = some (.iface 9 (.string s1))) (h2 : w.cell? ⟨ad.block, ad.off + 2, none⟩ = some (u2)) (hb : ad.block < w.heap.size) :
    Calls Tryz.prog 86 #[.iface 103 (.slice (some ad) 3 c)] w (rowPost none w) := by
  go_enter Tryz.func86, Tryz.ntmps86
  go_wp2
  refine bodyPost_ret (results_row _ _ w.heap.size _ _ _ _ _ _ rfl rfl (alloc_lastV _ _)) rfl ?_
  exact ⟨rfl, (Below.refl _ _).alloc (Nat.le_refl _) _⟩
set_option maxHeartbeats 4000000 in
set_option maxRecDepth 100000 in
theorem row_il (ad : Addr) (c : Nat) (n0 : Int) (A1 : Option Addr) (m1 c1 : Nat) (u2 : Value) (w : World) (h0 : w.cell? ad = some (.iface 3 (.int .i64 n0))) (h1 : w.cell? ⟨ad.block, ad.off + 1, none⟩ = some (.iface 103 (.slice A1 m1 c1))) (h2 : w.cell? ⟨ad.block, ad.off + 2, none⟩ = some (u2)) (hb : ad.block < w.heap.size) :
    Calls Tryz.prog 86 #[.iface 103 (.slice (some ad) 3 c)] w (rowPost none w) := by
  go_enter Tryz.func86, Tryz.ntmps86
  go_wp2
  refine bodyPost_ret (results_row _ _ w.heap.size _ _ _ _ _ _ rfl rfl (alloc_lastV _ _)) rfl ?_
  exact ⟨rfl, (Below.refl _ _).alloc (Nat.le_refl _) _⟩
set_option maxHeartbeats 4000000 in
set_option maxRecDepth 100000 in
theorem row_si (ad : Addr) (c : Nat) (s0 : ByteArray) (n1 : Int) (u2 : Value) (w : World) (h0 : w.cell? ad = some (.iface 9 (.string s0))) (h1 : w.cell? ⟨ad.block, ad.off + 1, none⟩ = some (.iface 3 (.int .i64 n1))) (h2 : w.cell? ⟨ad.block, ad.off + 2, none⟩ = some (u2)) (hb : ad.block < w.heap.size) :
    Calls Tryz.prog 86 #[.iface 103 (.slice (some ad) 3 c)] w (rowPost none w) := by
  go_enter Tryz.func86, Tryz.ntmps86
  go_wp2
  refine bodyPost_ret (results_row _ _ w.heap.size _ _ _ _ _ _ rfl rfl (alloc_lastV _ _)) rfl ?_
  exact ⟨rfl, (Below.refl _ _).alloc (Nat.le_refl _) _⟩
set_option maxHeartbeats 4000000 in
set_option maxRecDepth 100000 in
theorem row_ss (ad : Addr) (c : Nat) (s0 : ByteArray) (s1 : ByteArray) (u2 : Value) (w : World) (h0 : w.cell? ad = some (.iface 9 (.string s0))) (h1 : w.cell? ⟨ad.block, ad.off + 1, none⟩ = some (.iface 9 (.string s1))) (h2 : w.cell? ⟨ad.block, ad.off + 2, none⟩ = some (u2)) (hb : ad.block < w.heap.size) :
    Calls Tryz.prog 86 #[.iface 103 (.slice (some ad) 3 c)] w (rowPost none w) := by
  go_enter Tryz.func86, Tryz.ntmps86
  go_wp2
  refine bodyPost_ret (results_row _ _ w.heap.size _ _ _ _ _ _ rfl rfl (alloc_lastV _ _)) rfl ?_
  exact ⟨rfl, (Below.refl _ _).alloc (Nat.le_refl _) _⟩
set_option maxHeartbeats 4000000 in
set_option maxRecDepth 100000 in
theorem row_sl (ad : Addr) (c : Nat) (s0 : ByteArray) (A1 : Option Addr) (m1 c1 : Nat) (u2 : Value) (w : World) (h0 : w.cell? ad = some (.iface 9 (.string s0))) (h1 : w.cell? ⟨ad.block, ad.off + 1, none⟩ = some (.iface 103 (.slice A1 m1 c1))) (h2 : w.cell? ⟨ad.block, ad.off + 2, none⟩ = some (u2)) (hb : ad.block < w.heap.size) :
    Calls Tryz.prog 86 #[.iface 103 (.slice (some ad) 3 c)] w (rowPost none w) := by
  go_enter Tryz.func86, Tryz.ntmps86
  go_wp2
  refine bodyPost_ret (results_row _ _ w.heap.size _ _ _ _ _ _ rfl rfl (alloc_lastV _ _)) rfl ?_
  exact ⟨rfl, (Below.refl _ _).alloc (Nat.le_refl _) _⟩
set_option maxHeartbeats 4000000 in
set_option maxRecDepth 100000 in
theorem row_li (ad : Addr) (c : Nat) (A0 : Option Addr) (m0 c0 : Nat) (n1 : Int) (u2 : Value) (w : World) (h0 : w.cell? ad = some (.iface 103 (.slice A0 m0 c0))) (h1 : w.cell? ⟨ad.block, ad.off + 1, none⟩ = some (.iface 3 (.int .i64 n1))) (h2 : w.cell? ⟨ad.block, ad.off + 2, none⟩ = some (u2)) (hb : ad.block < w.heap.size) :
    Calls Tryz.prog 86 #[.iface 103 (.slice (some ad) 3 c)] w (rowPost none w) := by
  go_enter Tryz.func86, Tryz.ntmps86
  go_wp2
  refine bodyPost_ret (results_row _ _ w.heap.size _ _ _ _ _ _ rfl rfl (alloc_lastV _ _)) rfl ?_
  exact ⟨rfl, (Below.refl _ _).alloc (Nat.le_refl _) _⟩
set_option maxHeartbeats 4000000 in
set_option maxRecDepth 100000 in
theorem row_ls (ad : Addr) (c : Nat) (A0 : Option Addr) (m0 c0 : Nat) (s1 : ByteArray) (u2 : Value) (w : World) (h0 : w.cell? ad = some (.iface 103 (.slice A0 m0 c0))) (h1 : w.cell? ⟨ad.block, ad.off + 1, none⟩ = some (.iface 9 (.string s1))) (h2 : w.cell? ⟨ad.block, ad.off + 2, none⟩ = some (u2)) (hb : ad.block < w.heap.size) :
    Calls Tryz.prog 86 #[.iface 103 (.slice (some ad) 3 c)] w (rowPost none w) := by
  go_enter Tryz.func86, Tryz.ntmps86
  go_wp2
  refine bodyPost_ret (results_row _ _ w.heap.size _ _ _ _ _ _ rfl rfl (alloc_lastV _ _)) rfl ?_
  exact ⟨rfl, (Below.refl _ _).alloc (Nat.le_refl _) _⟩
set_option maxHeartbeats 4000000 in
set_option maxRecDepth 100000 in
theorem row_ll (ad : Addr) (c : Nat) (A0 : Option Addr) (m0 c0 : Nat) (A1 : Option Addr) (m1 c1 : Nat) (u2 : Value) (w : World) (h0 : w.cell? ad = some (.iface 103 (.slice A0 m0 c0))) (h1 : w.cell? ⟨ad.block, ad.off + 1, none⟩ = some (.iface 103 (.slice A1 m1 c1))) (h2 : w.cell? ⟨ad.block, ad.off + 2, none⟩ = some (u2)) (hb : ad.block < w.heap.size) :
    Calls Tryz.prog 86 #[.iface 103 (.slice (some ad) 3 c)] w (rowPost none w) := by
  go_enter Tryz.func86, Tryz.ntmps86
  go_wp2
  refine bodyPost_ret (results_row _ _ w.heap.size _ _ _ _ _ _ rfl rfl (alloc_lastV _ _)) rfl ?_
  exact ⟨rfl, (Below.refl _ _).alloc (Nat.le_refl _) _⟩
set_option maxHeartbeats 4000000 in
set_option maxRecDepth 100000 in
theorem row_iii (ad : Addr) (c : Nat) (n0 : Int) (n1 : Int) (n2 : Int) (w : World) (h0 : w.cell? ad = some (.iface 3 (.int .i64 n0))) (h1 : w.cell? ⟨ad.block, ad.off + 1, none⟩ = some (.iface 3 (.int .i64 n1))) (h2 : w.cell? ⟨ad.block, ad.off + 2, none⟩ = some (.iface 3 (.int .i64 n2))) (hb : ad.block < w.heap.size) :
    Calls Tryz.prog 86 #[.iface 103 (.slice (some ad) 3 c)] w (rowPost (some ⟨n0, n1, ⟨1, n2, ⟨#[]⟩⟩⟩) w) := by
  go_enter Tryz.func86, Tryz.ntmps86
  go_wp2
  refine bodyPost_ret (results_row _ _ w.heap.size _ _ _ _ _ _ rfl rfl (alloc_two _ _ _)) rfl ?_
  exact ⟨rfl, ((Below.refl _ _).alloc (Nat.le_refl _) _).alloc (by simp) _⟩
set_option maxHeartbeats 4000000 in
set_option maxRecDepth 100000 in
theorem row_iis (ad : Addr) (c : Nat) (n0 n1 : Int) (s2 : ByteArray) (w : World) (h0 : w.cell? ad = some (.iface 3 (.int .i64 n0))) (h1 : w.cell? ⟨ad.block, ad.off + 1, none⟩ = some (.iface 3 (.int .i64 n1))) (h2 : w.cell? ⟨ad.block, ad.off + 2, none⟩ = some (.iface 9 (.string s2))) (hb : ad.block < w.heap.size) :
    Calls Tryz.prog 86 #[.iface 103 (.slice (some ad) 3 c)] w (rowPost (some ⟨n0, n1, ⟨2, 0, s2⟩⟩) w) := by
  go_enter Tryz.func86, Tryz.ntmps86
  go_wp2
  refine bodyPost_ret (results_row _ _ w.heap.size _ _ _ _ _ _ rfl rfl (alloc_two _ _ _)) rfl ?_
  exact ⟨rfl, ((Below.refl _ _).alloc (Nat.le_refl _) _).alloc (by simp) _⟩
set_option maxHeartbeats 4000000 in
set_option maxRecDepth 100000 in
theorem row_iil (ad : Addr) (c : Nat) (n0 n1 : Int) (v2 : Value) (w : World) (h0 : w.cell? ad = some (.iface 3 (.int .i64 n0))) (h1 : w.cell? ⟨ad.block, ad.off + 1, none⟩ = some (.iface 3 (.int .i64 n1))) (h2 : w.cell? ⟨ad.block, ad.off + 2, none⟩ = some (.iface 103 v2)) (hb : ad.block < w.heap.size) :
    Calls Tryz.prog 86 #[.iface 103 (.slice (some ad) 3 c)] w (rowPost none w) := by
  go_enter Tryz.func86, Tryz.ntmps86
  go_wp2
  refine bodyPost_ret (results_row _ _ w.heap.size _ _ _ _ _ _ rfl rfl (alloc_two _ _ _)) rfl ?_
  exact ⟨rfl, ((Below.refl _ _).alloc (Nat.le_refl _) _).alloc (by simp) _⟩
theorem three_at {ad : Addr} {w : World} {u : Value} (j : Nat) (hj : 0 < j) (h : w.cell? (ad.add j) = some u) : w.cell? ⟨ad.block, ad.off + j, none⟩ = some u := by
  have e : ad.add j = ⟨ad.block, ad.off + j, none⟩ := by
    have := add_field ad 0 j hj
    rw [Nat.zero_add, show ad.add 0 = ad from by simp [Addr.add]] at this
    exact this
  rw [← e]; exact h
theorem isL_of {x : S38} (h1 : x.f0 ≠ 1) (h2 : x.f0 ≠ 2) : isL x = true := by unfold isL; rw [decide_eq_false h1, decide_eq_false h2]; rfl
theorem row_calls (x : S38) (u : Value) (w : World) (h : AnyAt w x u) : Calls Tryz.prog 86 #[u] w (rowPost (rowD x) w) := by
  rcases any_cases h with ⟨h1, rfl⟩ | ⟨h1, rfl⟩ | ⟨h1, h2, A, c, rfl, hl, hC⟩
  · have : rowD x = none := by unfold rowD isL; rw [decide_eq_true h1]; rfl
    rw [this]; exact row_atom _ w (.inl ⟨_, rfl⟩)
  · have : rowD x = none := by unfold rowD isL; rw [decide_eq_true h1]; simp
    rw [this]; exact row_atom _ w (.inr ⟨_, rfl⟩)
  · have hL := isL_of h1 h2
    by_cases h3 : x.f3.length = 3
    · obtain ⟨a, b, d, hx⟩ : ∃ a b d, x.f3 = [a, b, d] := by
        match hx : x.f3, h3 with
        | [a, b, d], _ => exact ⟨a, b, d, rfl⟩
      have hd : rowD x = if a.f0 = 1 ∧ b.f0 = 1 then (if d.f0 = 1 then some ⟨a.f1, b.f1, ⟨1, d.f1, ⟨#[]⟩⟩⟩ else if d.f0 = 2 then some ⟨a.f1, b.f1, ⟨2, 0, d.f2⟩⟩ else none) else none := by
        unfold rowD; rw [if_pos hL, hx]
      rw [hd, h3]
      obtain ⟨ad, u0, rfl, c0, k0, hb0⟩ := any_at hC (i := 0) (x := a) (by rw [hx]; rfl)
      obtain ⟨ad1, u1, e1, c1, k1, hb1⟩ := any_at hC (i := 1) (x := b) (by rw [hx]; rfl)
      obtain ⟨ad2, u2, e2, c2, k2, hb2⟩ := any_at hC (i := 2) (x := d) (by rw [hx]; rfl)
      cases e1; cases e2
      rw [show ad.add 0 = ad from by simp [Addr.add]] at c0 hb0
      have c1 := three_at 1 (by decide) c1
      have c2 := three_at 2 (by decide) c2
      rcases any_cases k0 with ⟨q0, rfl⟩ | ⟨q0, rfl⟩ | ⟨q0, q0', A0, d0, rfl, _⟩ <;> rcases any_cases k1 with ⟨q1, rfl⟩ | ⟨q1, rfl⟩ | ⟨q1, q1', A1, d1, rfl, _⟩
      · rw [if_pos ⟨q0, q1⟩]
        rcases any_cases k2 with ⟨q2, rfl⟩ | ⟨q2, rfl⟩ | ⟨q2, q2', A2, d2, rfl, _⟩
        · rw [if_pos q2]; exact row_iii ad c _ _ _ w c0 c1 c2 hb0
        · rw [if_neg (by omega), if_pos q2]; exact row_iis ad c _ _ _ w c0 c1 c2 hb0
        · rw [if_neg q2, if_neg q2']; exact row_iil ad c _ _ _ w c0 c1 c2 hb0
      · rw [if_neg (by omega)]; exact row_is ad c _ _ _ w c0 c1 c2 hb0
      · rw [if_neg (by omega)]; exact row_il ad c _ _ _ _ _ w c0 c1 c2 hb0
      · rw [if_neg (by omega)]; exact row_si ad c _ _ _ w c0 c1 c2 hb0
      · rw [if_neg (by omega)]; exact row_ss ad c _ _ _ w c0 c1 c2 hb0
      · rw [if_neg (by omega)]; exact row_sl ad c _ _ _ _ _ w c0 c1 c2 hb0
      · rw [if_neg (by omega)]; exact row_li ad c _ _ _ _ _ w c0 c1 c2 hb0
      · rw [if_neg (by omega)]; exact row_ls ad c _ _ _ _ _ w c0 c1 c2 hb0
      · rw [if_neg (by omega)]; exact row_ll ad c _ _ _ _ _ _ _ w c0 c1 c2 hb0
    · have : rowD x = none := by
        unfold rowD; rw [if_pos hL]
        split
        · rename_i hx; rw [hx] at h3; exact absurd rfl h3
        · rfl
      rw [this]; exact row_len A _ c w h3
end Go.Proofs.YtgjlchcfdbmmlaaGreatDoor.PObjectPuts
namespace Go.Proofs.YtgjlchcfdbmmlaaGreatDoor.PObjectPuts
open Go.RowKit Go.Proofs.YtgjlchcfdbmmlaaGreatDoor.Ord Go.Proofs.YtgjlchcfdbmmlaaGreatDoor.Obj Go.Proofs.YtgjlchcfdbmmlaaGreatDoorW.PrintWords Go.Proofs.YtgjlchcfdbmmlaaGreatDoorW.PrintLast Go.Proofs.YtgjlchcfdbmmlaaGreatDoorW.PrintMore
attribute [local irreducible] OpGives
attribute [local go_sem] ta_ii ta_is ta_il ta_si ta_ss ta_sl ta_li ta_ls ta_ll

def kidD (x : S38) : Option S52 :=
  if isL x then match x.f3 with
    | [a, b] => if a.f0 = 1 ∧ b.f0 = 2 then (if 0 ≤ a.f1 ∧ a.f1 ≤ 255 then some ⟨a.f1, b.f2⟩ else none) else none
    | _ => none
  else none
def kidVal (r : S52) : Value := .agg #[.int .u8 r.f0, .string r.f1]
def kidPost (o : Option S52) (w : World) (e : Ending) (w' : World) : Prop := e = .returned (.tuple #[kidVal (o.getD z52), .bool o.isSome]) ∧ Below w.heap.size w w'
theorem results_kid (tmps : Array Value) (w : World) (c : Nat) (a0 a1 b : Value) (h2 : tmps.getD 2 undef = .pointer (some ⟨c, 0, none⟩)) (h3 : tmps.getD 3 undef = b)
    (hc : w.heap[c]? = some (.cells #[a0, a1] 52 (0, 0))) :
    (results Tryz.f74 tmps).run Tryz.prog w = .ok (.tuple #[.agg #[a0, a1], b]) w := by
  have h2' : tmps[2]?.getD undef = .pointer (some ⟨c, 0, none⟩) := by simpa using h2
  have h3' : tmps[3]?.getD undef = b := by simpa using h3
  obtain ⟨k0, k1⟩ := box2 hc
  simp [results, Tryz.results74, h2', h3', asAddr, k0, k1, go_sem]
set_option maxRecDepth 100000 in
theorem kid_atom (u : Value) (w : World) (hu : (∃ v, u = .iface 3 v) ∨ ∃ v, u = .iface 9 v) : Calls Tryz.prog 74 #[u] w (kidPost none w) := by
  rcases hu with ⟨v, rfl⟩ | ⟨v, rfl⟩
  · go_enter Tryz.func74, Tryz.ntmps74
    go_wp2
    refine bodyPost_ret (results_kid _ _ w.heap.size _ _ _ rfl rfl (alloc_lastV _ _)) rfl ?_
    exact ⟨rfl, (Below.refl _ _).alloc (Nat.le_refl _) _⟩
  · go_enter Tryz.func74, Tryz.ntmps74
    go_wp2
    refine bodyPost_ret (results_kid _ _ w.heap.size _ _ _ rfl rfl (alloc_lastV _ _)) rfl ?_
    exact ⟨rfl, (Below.refl _ _).alloc (Nat.le_refl _) _⟩
set_option maxRecDepth 100000 in
theorem kid_len (A : Option Addr) (n c : Nat) (w : World) (hn : n ≠ 2) : Calls Tryz.prog 74 #[.iface 103 (.slice A n c)] w (kidPost none w) := by
  have hn' : ((n : Int) == 2) = false := by rw [beq_eq_false_iff_ne]; omega
  go_enter Tryz.func74, Tryz.ntmps74
  go_wp2
  refine bodyPost_ret (results_kid _ _ w.heap.size _ _ _ rfl rfl (alloc_lastV _ _)) rfl ?_
  exact ⟨rfl, (Below.refl _ _).alloc (Nat.le_refl _) _⟩
set_option maxHeartbeats 4000000 in
set_option maxRecDepth 100000 in
theorem kid_ii (ad : Addr) (c : Nat) (n0 : Int) (n1 : Int) (w : World) (h0 : w.cell? ad = some (.iface 3 (.int .i64 n0))) (h1 : w.cell? ⟨ad.block, ad.off + 1, none⟩ = some (.iface 3 (.int .i64 n1))) (hb : ad.block < w.heap.size) :
    Calls Tryz.prog 74 #[.iface 103 (.slice (some ad) 2 c)] w (kidPost none w) := by
  go_enter Tryz.func74, Tryz.ntmps74
  go_wp2
  refine bodyPost_ret (results_kid _ _ w.heap.size _ _ _ rfl rfl (alloc_lastV _ _)) rfl ?_
  exact ⟨rfl, (Below.refl _ _).alloc (Nat.le_refl _) _⟩
set_option maxHeartbeats 4000000 in
set_option maxRecDepth 100000 in
theorem kid_il (ad : Addr) (c : Nat) (n0 : Int) (v1 : Value) (w : World) (h0 : w.cell? ad = some (.iface 3 (.int .i64 n0))) (h1 : w.cell? ⟨ad.block, ad.off + 1, none⟩ = some (.iface 103 v1)) (hb : ad.block < w.heap.size) :
    Calls Tryz.prog 74 #[.iface 103 (.slice (some ad) 2 c)] w (kidPost none w) := by
  go_enter Tryz.func74, Tryz.ntmps74
  go_wp2
  refine bodyPost_ret (results_kid _ _ w.heap.size _ _ _ rfl rfl (alloc_lastV _ _)) rfl ?_
  exact ⟨rfl, (Below.refl _ _).alloc (Nat.le_refl _) _⟩
set_option maxHeartbeats 4000000 in
set_option maxRecDepth 100000 in
theorem kid_si (ad : Addr) (c : Nat) (s0 : ByteArray) (n1 : Int) (w : World) (h0 : w.cell? ad = some (.iface 9 (.string s0))) (h1 : w.cell? ⟨ad.block, ad.off + 1, none⟩ = some (.iface 3 (.int .i64 n1))) (hb : ad.block < w.heap.size) :
    Calls Tryz.prog 74 #[.iface 103 (.slice (some ad) 2 c)] w (kidPost none w) := by
  go_enter Tryz.func74, Tryz.ntmps74
  go_wp2
  refine bodyPost_ret (results_kid _ _ w.heap.size _ _ _ rfl rfl (alloc_lastV _ _)) rfl ?_
  exact ⟨rfl, (Below.refl _ _).alloc (Nat.le_refl _) _⟩
set_option maxHeartbeats 4000000 in
set_option maxRecDepth 100000 in
theorem kid_ss (ad : Addr) (c : Nat) (s0 : ByteArray) (s1 : ByteArray) (w : World) (h0 : w.cell? ad = some (.iface 9 (.string s0))) (h1 : w.cell? ⟨ad.block, ad.off + 1, none⟩ = some (.iface 9 (.string s1))) (hb : ad.block < w.heap.size) :
    Calls Tryz.prog 74 #[.iface 103 (.slice (some ad) 2 c)] w (kidPost none w) := by
  go_enter Tryz.func74, Tryz.ntmps74
  go_wp2
  refine bodyPost_ret (results_kid _ _ w.heap.size _ _ _ rfl rfl (alloc_lastV _ _)) rfl ?_
  exact ⟨rfl, (Below.refl _ _).alloc (Nat.le_refl _) _⟩
set_option maxHeartbeats 4000000 in
set_option maxRecDepth 100000 in
theorem kid_sl (ad : Addr) (c : Nat) (s0 : ByteArray) (v1 : Value) (w : World) (h0 : w.cell? ad = some (.iface 9 (.string s0))) (h1 : w.cell? ⟨ad.block, ad.off + 1, none⟩ = some (.iface 103 v1)) (hb : ad.block < w.heap.size) :
    Calls Tryz.prog 74 #[.iface 103 (.slice (some ad) 2 c)] w (kidPost none w) := by
  go_enter Tryz.func74, Tryz.ntmps74
  go_wp2
  refine bodyPost_ret (results_kid _ _ w.heap.size _ _ _ rfl rfl (alloc_lastV _ _)) rfl ?_
  exact ⟨rfl, (Below.refl _ _).alloc (Nat.le_refl _) _⟩
set_option maxHeartbeats 4000000 in
set_option maxRecDepth 100000 in
theorem kid_li (ad : Addr) (c : Nat) (v0 : Value) (n1 : Int) (w : World) (h0 : w.cell? ad = some (.iface 103 v0)) (h1 : w.cell? ⟨ad.block, ad.off + 1, none⟩ = some (.iface 3 (.int .i64 n1))) (hb : ad.block < w.heap.size) :
    Calls Tryz.prog 74 #[.iface 103 (.slice (some ad) 2 c)] w (kidPost none w) := by
  go_enter Tryz.func74, Tryz.ntmps74
  go_wp2
  refine bodyPost_ret (results_kid _ _ w.heap.size _ _ _ rfl rfl (alloc_lastV _ _)) rfl ?_
  exact ⟨rfl, (Below.refl _ _).alloc (Nat.le_refl _) _⟩
set_option maxHeartbeats 4000000 in
set_option maxRecDepth 100000 in
theorem kid_ls (ad : Addr) (c : Nat) (v0 : Value) (s1 : ByteArray) (w : World) (h0 : w.cell? ad = some (.iface 103 v0)) (h1 : w.cell? ⟨ad.block, ad.off + 1, none⟩ = some (.iface 9 (.string s1))) (hb : ad.block < w.heap.size) :
    Calls Tryz.prog 74 #[.iface 103 (.slice (some ad) 2 c)] w (kidPost none w) := by
  go_enter Tryz.func74, Tryz.ntmps74
  go_wp2
  refine bodyPost_ret (results_kid _ _ w.heap.size _ _ _ rfl rfl (alloc_lastV _ _)) rfl ?_
  exact ⟨rfl, (Below.refl _ _).alloc (Nat.le_refl _) _⟩
set_option maxHeartbeats 4000000 in
set_option maxRecDepth 100000 in
theorem kid_ll (ad : Addr) (c : Nat) (v0 : Value) (v1 : Value) (w : World) (h0 : w.cell? ad = some (.iface 103 v0)) (h1 : w.cell? ⟨ad.block, ad.off + 1, none⟩ = some (.iface 103 v1)) (hb : ad.block < w.heap.size) :
    Calls Tryz.prog 74 #[.iface 103 (.slice (some ad) 2 c)] w (kidPost none w) := by
  go_enter Tryz.func74, Tryz.ntmps74
  go_wp2
  refine bodyPost_ret (results_kid _ _ w.heap.size _ _ _ rfl rfl (alloc_lastV _ _)) rfl ?_
  exact ⟨rfl, (Below.refl _ _).alloc (Nat.le_refl _) _⟩
set_option maxHeartbeats 4000000 in
set_option maxRecDepth 100000 in
theorem kid_ok (ad : Addr) (c : Nat) (n0 : Int) (s1 : ByteArray) (w : World) (h0 : w.cell? ad = some (.iface 3 (.int .i64 n0))) (h1 : w.cell? ⟨ad.block, ad.off + 1, none⟩ = some (.iface 9 (.string s1))) (hb : ad.block < w.heap.size) (hn0 : 0 ≤ n0) (hn1 : n0 ≤ 255) :
    Calls Tryz.prog 74 #[.iface 103 (.slice (some ad) 2 c)] w (kidPost (some ⟨n0, s1⟩) w) := by
  have hn0' : ¬ n0 < 0 := by omega
  have hn1' : ¬ (255 : Int) < n0 := by omega
  have hwn : IntKind.u8.wrap n0 = n0 := by rw [IntKind.wrap_u8]; omega
  go_enter Tryz.func74, Tryz.ntmps74
  go_wp2
  refine bodyPost_ret (results_kid _ _ w.heap.size _ _ _ rfl rfl (alloc_lastV _ _)) rfl ?_
  exact ⟨rfl, (Below.refl _ _).alloc (Nat.le_refl _) _⟩
set_option maxHeartbeats 4000000 in
set_option maxRecDepth 100000 in
theorem kid_neg (ad : Addr) (c : Nat) (n0 : Int) (s1 : ByteArray) (w : World) (h0 : w.cell? ad = some (.iface 3 (.int .i64 n0))) (h1 : w.cell? ⟨ad.block, ad.off + 1, none⟩ = some (.iface 9 (.string s1))) (hb : ad.block < w.heap.size) (hn0 : n0 < 0) :
    Calls Tryz.prog 74 #[.iface 103 (.slice (some ad) 2 c)] w (kidPost none w) := by
  go_enter Tryz.func74, Tryz.ntmps74
  go_wp2
  refine bodyPost_ret (results_kid _ _ w.heap.size _ _ _ rfl rfl (alloc_lastV _ _)) rfl ?_
  exact ⟨rfl, (Below.refl _ _).alloc (Nat.le_refl _) _⟩
set_option maxHeartbeats 4000000 in
set_option maxRecDepth 100000 in
theorem kid_big (ad : Addr) (c : Nat) (n0 : Int) (s1 : ByteArray) (w : World) (h0 : w.cell? ad = some (.iface 3 (.int .i64 n0))) (h1 : w.cell? ⟨ad.block, ad.off + 1, none⟩ = some (.iface 9 (.string s1))) (hb : ad.block < w.heap.size) (hn0 : 255 < n0) :
    Calls Tryz.prog 74 #[.iface 103 (.slice (some ad) 2 c)] w (kidPost none w) := by
  have hn0' : ¬ n0 < 0 := by omega
  go_enter Tryz.func74, Tryz.ntmps74
  go_wp2
  refine bodyPost_ret (results_kid _ _ w.heap.size _ _ _ rfl rfl (alloc_lastV _ _)) rfl ?_
  exact ⟨rfl, (Below.refl _ _).alloc (Nat.le_refl _) _⟩
theorem kid_calls (x : S38) (u : Value) (w : World) (h : AnyAt w x u) : Calls Tryz.prog 74 #[u] w (kidPost (kidD x) w) := by
  rcases any_cases h with ⟨h1, rfl⟩ | ⟨h1, rfl⟩ | ⟨h1, h2, A, c, rfl, hl, hC⟩
  · have : kidD x = none := by unfold kidD isL; rw [decide_eq_true h1]; rfl
    rw [this]; exact kid_atom _ w (.inl ⟨_, rfl⟩)
  · have : kidD x = none := by unfold kidD isL; rw [decide_eq_true h1]; simp
    rw [this]; exact kid_atom _ w (.inr ⟨_, rfl⟩)
  · have hL := isL_of h1 h2
    by_cases h3 : x.f3.length = 2
    · obtain ⟨a, b, hx⟩ : ∃ a b, x.f3 = [a, b] := by
        match hx : x.f3, h3 with
        | [a, b], _ => exact ⟨a, b, rfl⟩
      have hd : kidD x = if a.f0 = 1 ∧ b.f0 = 2 then (if 0 ≤ a.f1 ∧ a.f1 ≤ 255 then some ⟨a.f1, b.f2⟩ else none) else none := by
        unfold kidD; rw [if_pos hL, hx]
      rw [hd, h3]
      obtain ⟨ad, u0, rfl, c0, k0, hb0⟩ := any_at hC (i := 0) (x := a) (by rw [hx]; rfl)
      obtain ⟨ad1, u1, e1, c1, k1, hb1⟩ := any_at hC (i := 1) (x := b) (by rw [hx]; rfl)
      cases e1
      rw [show ad.add 0 = ad from by simp [Addr.add]] at c0 hb0
      have c1 := three_at 1 (by decide) c1
      rcases any_cases k0 with ⟨q0, rfl⟩ | ⟨q0, rfl⟩ | ⟨q0, q0', A0, d0, rfl, _⟩ <;> rcases any_cases k1 with ⟨q1, rfl⟩ | ⟨q1, rfl⟩ | ⟨q1, q1', A1, d1, rfl, _⟩
      · rw [if_neg (by omega)]; exact kid_ii ad c _ _ w c0 c1 hb0
      · rw [if_pos ⟨q0, q1⟩]
        by_cases hneg : a.f1 < 0
        · rw [if_neg (by omega)]; exact kid_neg ad c _ _ w c0 c1 hb0 hneg
        · by_cases hbig : 255 < a.f1
          · rw [if_neg (by omega)]; exact kid_big ad c _ _ w c0 c1 hb0 hbig
          · rw [if_pos (by omega)]; exact kid_ok ad c _ _ w c0 c1 hb0 (by omega) (by omega)
      · rw [if_neg (by omega)]; exact kid_il ad c _ _ w c0 c1 hb0
      · rw [if_neg (by omega)]; exact kid_si ad c _ _ w c0 c1 hb0
      · rw [if_neg (by omega)]; exact kid_ss ad c _ _ w c0 c1 hb0
      · rw [if_neg (by omega)]; exact kid_sl ad c _ _ w c0 c1 hb0
      · rw [if_neg (by omega)]; exact kid_li ad c _ _ w c0 c1 hb0
      · rw [if_neg (by omega)]; exact kid_ls ad c _ _ w c0 c1 hb0
      · rw [if_neg (by omega)]; exact kid_ll ad c _ _ w c0 c1 hb0
    · have : kidD x = none := by
        unfold kidD; rw [if_pos hL]
        split
        · rename_i hx; rw [hx] at h3; exact absurd rfl h3
        · rfl
      rw [this]; exact kid_len A _ c w h3
end Go.Proofs.YtgjlchcfdbmmlaaGreatDoor.PObjectPuts
namespace Go.Proofs.YtgjlchcfdbmmlaaGreatDoor.PObjectPuts
open Go.RowKit Go.Proofs.YtgjlchcfdbmmlaaGreatDoor.Ord Go.Proofs.YtgjlchcfdbmmlaaGreatDoor.Obj Go.Proofs.YtgjlchcfdbmmlaaGreatDoorW.PrintWords Go.Proofs.YtgjlchcfdbmmlaaGreatDoorW.PrintLast Go.Proofs.YtgjlchcfdbmmlaaGreatDoorW.PrintMore
attribute [local irreducible] OpGives
attribute [local go_sem] ta_ii ta_is ta_il ta_si ta_ss ta_sl ta_li ta_ls ta_ll

def rowsD : List S38 → Option (List S50)
  | [] => some []
  | x :: xs => match rowD x with | none => none | some r => (rowsD xs).map (r :: ·)
def takenP (R : Option (List S50)) : List S50 × Bool := match R with | some rs => (rs, okRows rs) | none => ([], false)
def takenR (x : S38) : List S50 × Bool := if isL x then takenP (rowsD x.f3) else ([], false)
theorem rowsD_step {l acc : List S38} {i : Nat} {x : S38} (h : l[i]? = some x) : rowsD (l.drop i) = match rowD x with | none => none | some r => (rowsD (l.drop (i + 1))).map (r :: ·) := by
  obtain ⟨hi, hx⟩ := List.getElem?_eq_some_iff.1 h
  rw [List.drop_eq_getElem_cons hi, rowsD, hx]
abbrev rR (W : World) (base : Nat) (v : Value) (l : List S50) : Prop := Kd.R k50 50 W base (fun _ => True) v l
theorem infoRow : (Tryz.prog.info? 50).map (fun i => (i.zero, i.size, i.bytes)) = some (some (.agg #[.int .i64 0, .int .i64 0, .int .i64 0, .int .i64 0, .string (⟨#[]⟩ : ByteArray)]), 5, 48) := by kernel_rfl
theorem append_row {W : World} {b0 : Nat} {v : Value} {acc : List S50} {x : S50} {g : Nat} (hR : rR W b0 v acc) (hb0 : b0 ≤ W.heap.size)
    (hg : W.heap[g]? = some (.cells #[.int .i64 x.f0, .int .i64 x.f1, .int .i64 x.f2.f0, .int .i64 x.f2.f1, .string x.f2.f2] 50 (0, 0))) (hn : acc.length ≤ 1000000) (ty : TypeId) :
    ∃ v' W', (Builtin.append_ #[23, 23] ty #[v, .slice (some ⟨g, 0, none⟩) 1 1]).run Tryz.prog W = .ok v' W' ∧ W.grownBy W' v.ownBlock ∧ rR W' b0 v' (acc ++ [x]) := by
  obtain ⟨i0, hi0, hz0, hz1, hz2⟩ := info_parts infoRow
  have hgs := (Array.getElem?_eq_some_iff.1 hg).1
  obtain ⟨h0, inner, hown, hreps⟩ := hR
  have hbn : (acc.length + 1) * 48 ≤ 1000001 * 48 := Nat.mul_le_mul (by omega) (Nat.le_refl _)
  obtain ⟨h, cap, W', hr, hown', hgr, hat, _⟩ := run_append_lies (P := Tryz.prog) W 23 ty b0 50 i0 _ 5 48 Tryz.underlying23 hi0 hz0 hz1 hz2 (by rfl) (by decide) v acc.length _ hown ⟨g, 0, none⟩ 1 1 [.int .i64 x.f0, .int .i64 x.f1, .int .i64 x.f2.f0, .int .i64 x.f2.f1, .string x.f2.f2]
    (by rfl) (World.news_of_block (cs := #[.int .i64 x.f0, .int .i64 x.f1, .int .i64 x.f2.f0, .int .i64 x.f2.f1, .string x.f2.f2]) hg) (by
      intro u hu
      simp only [List.mem_cons, List.not_mem_nil, or_false] at hu
      rcases hu with rfl | rfl | rfl | rfl | rfl <;> rfl) (by decide) (by unfold maxLen; omega) (by omega) hb0 W.heap.size rfl
  have hm3 : Kd.M k50 W b0 (fun _ => False) x [.int .i64 x.f0, .int .i64 x.f1, .int .i64 x.f2.f0, .int .i64 x.f2.f1, .string x.f2.f2] := k50_mkM W b0 _ x
  have hres := Kd.R_appended (d := k50) (e := 50) (base := b0) (ok := fun _ => True) (W := W) (w1 := W') (v := v) (v1 := .slice (some ⟨h, 0, none⟩) (acc.length + 1) cap) h0 hreps hm3 (fun k hk => hk.elim) (fun k hk => trivial) hown' hgr
    (hat.elim (fun e => .inl (by rw [e]; rfl)) (fun e => .inr ⟨h, rfl, by omega⟩))
  exact ⟨_, W', hr, hgr, hres⟩
theorem grown_belowK {α : Type} {d : Kd α} {e : Nat} {ok : Nat → Prop} {W W' : World} {b0 : Nat} {v : Value} {w : World} {acc : List α} (hR : d.R e W b0 ok v acc) (h : W.grownBy W' v.ownBlock) (hb : Below b0 w W) (hs : b0 ≤ W.heap.size) : Below b0 w W' := by
  have : Below b0 W W' := ⟨h.os, h.tape, h.output, h.size, fun k hk => by
    by_cases e : some k = v.ownBlock
    · obtain ⟨_, inner, hown, _⟩ := hR
      have := own_base hown k e.symm; omega
    · exact h.block k (by omega) e⟩
  exact hb.trans this
def TakenPost (r : List S50 × Bool) (w : World) (e : Ending) (w' : World) : Prop := ∃ A c, e = .returned (.tuple #[.slice A r.1.length c, .bool r.2]) ∧ rR w' w.heap.size (.slice A r.1.length c) r.1 ∧ Below w.heap.size w w'
set_option maxRecDepth 100000 in
theorem taken_atom (u : Value) (w : World) (hu : (∃ v, u = .iface 3 v) ∨ ∃ v, u = .iface 9 v) : Calls Tryz.prog 73 #[u] w (TakenPost ([], false) w) := by
  rcases hu with ⟨v, rfl⟩ | ⟨v, rfl⟩
  · go_enter Tryz.func73, Tryz.ntmps73
    go_wp2
    go_ret2
    exact ⟨none, 0, rfl, Kd.R_nil _ _ _ _ _, Below.refl _ _⟩
  · go_enter Tryz.func73, Tryz.ntmps73
    go_wp2
    go_ret2
    exact ⟨none, 0, rfl, Kd.R_nil _ _ _ _ _, Below.refl _ _⟩
set_option maxHeartbeats 8000000 in
set_option maxRecDepth 100000 in
theorem taken_list (l : List S38) (A : Option Addr) (c : Nat) (w : World) (hA : kA.C w A l.length l) (hl : l.length ≤ 1000000) (hT : Lib.Utf8Tabs 0 1 w) :
    Calls Tryz.prog 73 #[.iface 103 (.slice A l.length c)] w (TakenPost (takenP (rowsD l)) w) := by
  obtain ⟨R, hR⟩ : ∃ R, R = rowsD l := ⟨_, rfl⟩
  rw [← hR]
  have HA := Lib.hid hA
  have HT := Lib.hid hT
  have HRR := Lib.hid (show R = (rowsD (l.drop 0)).map (([] : List S50) ++ ·) by rw [hR, List.drop_zero]; simp)
  clear hR hA hT
  obtain ⟨RP, hRP⟩ : ∃ RP : Ending → World → Prop, RP = TakenPost (takenP R) w := ⟨_, rfl⟩
  rw [← hRP]
  have HRP := Lib.hid hRP
  clear hRP
  go_enter Tryz.func73, Tryz.ntmps73
  go_wp2_with fail
  go_loopw [6, 20] (fun v i wr => ∃ (j : Nat) (acc : List S50), i = .int .i64 (j : Int) ∧ j ≤ l.length ∧ acc.length = j ∧ rR wr w.heap.size v acc ∧ Below w.heap.size w wr ∧ Hid (R = (rowsD (l.drop j)).map (acc ++ ·))) (fun _ i _ => l.length - (intOf i).toNat)
  case atStart => exact ⟨0, [], rfl, Nat.zero_le _, rfl, Kd.R_nil _ _ _ _ _, Below.refl _ _, HRR⟩
  case round =>
    obtain ⟨i, acc, rfl, hi, hal, hrow, hbe, hr⟩ := hrel
    have HROW := Lib.hid hrow
    have HBE := Lib.hid hbe
    have HAL := Lib.hid hal
    by_cases hil : i < l.length
    · obtain ⟨x, hx⟩ : ∃ x, l[i]? = some x := ⟨_, List.getElem?_eq_getElem hil⟩
      obtain ⟨ad, u, rfl, c0, hu, hbk⟩ := any_at (Kd.C_below HA.out hbe) hx
      have hst := rowsD_step (acc := []) hx
      have hr2 := hr.out
      rw [hst] at hr2
      have HR2 := Lib.hid hr2
      have hcall := row_calls x u wr hu
      clear hst hr2 hr hx hu hrow hbe hal
      cases hrd : rowD x with
      | none =>
        rw [hrd] at hcall HR2
        have HC := Lib.hid hcall
        have hR3 : R = none := HR2.out
        subst hR3
        clear hcall hrd HR2
        go_wp2_with fail
        refine HC.out.mono ?_
        rintro e W2 ⟨rfl, hb2⟩
        have HF := Lib.hid (HBE.out.trans (hb2.mono HBE.out.size))
        clear hb2
        unfold rowVal
        simp only [Option.getD_none, Option.isSome_none]
        go_wp2_with fail
        rw [HRP.out]
        exact ⟨none, 0, rfl, Kd.R_nil _ _ _ _ _, HF.out.alloc HF.out.size _⟩
      | some y =>
        rw [hrd] at hcall HR2
        have HC := Lib.hid hcall
        clear hcall hrd
        go_wp2_with fail
        refine HC.out.mono ?_
        rintro e W2 ⟨rfl, hb2⟩
        obtain ⟨W3, hW3⟩ : ∃ W3, W3 = W2.alloc (.cells #[.int .i64 y.f0, .int .i64 y.f1, .int .i64 y.f2.f0, .int .i64 y.f2.f1, .string y.f2.f2] 50) := ⟨_, rfl⟩
        have hn3 : Below W2.heap.size W2 W3 := by rw [hW3]; exact (Below.refl _ _).alloc (Nat.le_refl _) _
        obtain ⟨W4, hW4⟩ : ∃ W4, W4 = W3.alloc (.cells #[.int .i64 y.f0, .int .i64 y.f1, .int .i64 y.f2.f0, .int .i64 y.f2.f1, .string y.f2.f2] 50) := ⟨_, rfl⟩
        have hn4 : Below W3.heap.size W3 W4 := by rw [hW4]; exact (Below.refl _ _).alloc (Nat.le_refl _) _
        have hg4 : W4.heap[W3.heap.size]? = some (.cells #[.int .i64 y.f0, .int .i64 y.f1, .int .i64 y.f2.f0, .int .i64 y.f2.f1, .string y.f2.f2] 50 (0, 0)) := by rw [hW4]; exact alloc_lastV _ _
        have hbw : Below wr.heap.size wr W4 := (hb2.trans (hn3.mono hb2.size)).trans (hn4.mono (Nat.le_trans hb2.size hn3.size))
        have hrW := Kd.R_below HROW.out hbw
        obtain ⟨v8, W8, hr8, hg8, hR8⟩ := append_row (b0 := w.heap.size) hrW (Nat.le_trans HBE.out.size hbw.size) hg4 (by have := HAL.out; omega) 23
        have hB8 := grown_belowK hrW hg8 (HBE.out.trans (hbw.mono HBE.out.size)) (Nat.le_trans HBE.out.size hbw.size)
        have HR8 := Lib.hid hR8
        have HB8 := Lib.hid hB8
        have hs3 : W3.heap.size = W2.heap.size + 1 := by rw [hW3]; simp
        rw [hs3, hW4, hW3] at hr8
        have HAPP := Lib.hid hr8
        have HR9 := Lib.hid (show R = (rowsD (l.drop (i + 1))).map ((acc ++ [y]) ++ ·) by
          rw [HR2.out, Option.map_map]; congr 1; funext z; simp)
        clear hg8 hR8 hB8 hrW hbw hg4 hn4 hW4 hn3 hW3 hb2 hr8 hs3
        unfold rowVal
        simp only [Option.getD_some, Option.isSome_some]
        go_wp2_with (refine wpList_value rfl (exec_append _ _ 23 rfl HAPP.out) ?_)
        go_roundw
        case rel => exact ⟨i + 1, acc ++ [y], by go_num, hil, by rw [List.length_append]; have := HAL.out; simp; omega, HR8.out, HB8.out, HR9⟩
        case measure => simp [intOf]; omega
    · have hie : i = l.length := by omega
      have hr2 := hr.out
      rw [hie, List.drop_length, rowsD, Option.map_some, List.append_nil] at hr2
      subst hr2
      obtain ⟨A3, c3, rfl, hlc, hC⟩ := Kd.R_reads hrow
      have HS := Lib.hid (scheck_calls acc A3 c3 wr hC hlc (Utf8Tabs_below HT.out hbe))
      have HCC := Lib.hid hrow
      clear hrow hie hbe hC hal hr
      cases hok : okRows acc with
      | true =>
        rw [hok] at HS
        go_wp2_with fail
        refine HS.out.mono ?_
        rintro e W2 ⟨rfl, hb2⟩
        have HF := Lib.hid (HBE.out.trans (hb2.mono HBE.out.size))
        have HC2 := Lib.hid (Kd.R_below HCC.out hb2)
        clear hb2
        go_wp2_with fail
        rw [HRP.out]
        exact ⟨A3, c3, by simp only [takenP, hok]; rfl, HC2.out, HF.out⟩
      | false =>
        rw [hok] at HS
        go_wp2_with fail
        refine HS.out.mono ?_
        rintro e W2 ⟨rfl, hb2⟩
        have HF := Lib.hid (HBE.out.trans (hb2.mono HBE.out.size))
        have HC2 := Lib.hid (Kd.R_below HCC.out hb2)
        clear hb2
        go_wp2_with fail
        rw [HRP.out]
        exact ⟨A3, c3, by simp only [takenP, hok]; rfl, HC2.out, HF.out⟩
theorem taken_calls (x : S38) (u : Value) (w : World) (h : AnyAt w x u) (hl : x.f3.length ≤ 1000000) (hT : Lib.Utf8Tabs 0 1 w) : Calls Tryz.prog 73 #[u] w (TakenPost (takenR x) w) := by
  rcases any_cases h with ⟨h1, rfl⟩ | ⟨h1, rfl⟩ | ⟨h1, h2, A, c, rfl, hlc, hC⟩
  · have : takenR x = ([], false) := by unfold takenR isL; rw [decide_eq_true h1]; rfl
    rw [this]; exact taken_atom _ w (.inl ⟨_, rfl⟩)
  · have : takenR x = ([], false) := by unfold takenR isL; rw [decide_eq_true h1]; simp
    rw [this]; exact taken_atom _ w (.inr ⟨_, rfl⟩)
  · have : takenR x = takenP (rowsD x.f3) := by unfold takenR; rw [if_pos (isL_of h1 h2)]
    rw [this]; exact taken_list x.f3 A c w hC hl hT
end Go.Proofs.YtgjlchcfdbmmlaaGreatDoor.PObjectPuts
namespace Go.Proofs.YtgjlchcfdbmmlaaGreatDoor.PObjectPuts
open Go.RowKit Go.Proofs.YtgjlchcfdbmmlaaGreatDoor.Ord Go.Proofs.YtgjlchcfdbmmlaaGreatDoor.Obj Go.Proofs.YtgjlchcfdbmmlaaGreatDoorW.PrintWords Go.Proofs.YtgjlchcfdbmmlaaGreatDoorW.PrintLast Go.Proofs.YtgjlchcfdbmmlaaGreatDoorW.PrintMore
attribute [local irreducible] OpGives

theorem any_str {w : World} {x : S38} {u : Value} (h : AnyAt w x u) : ∃ s, (∀ W, (Instr.typeAssert u 70 9 true).run Tryz.prog W = .ok (.tuple #[.string s, .bool (decide (x.f0 = 2))]) W) ∧ (x.f0 = 2 → s = x.f2) := by
  rcases any_cases h with ⟨h1, rfl⟩ | ⟨h1, rfl⟩ | ⟨h1, h2, A, c, rfl, _, _⟩
  · exact ⟨⟨#[]⟩, fun W => by rw [ta_is, decide_eq_false (by omega)], fun e => by omega⟩
  · exact ⟨x.f2, fun W => by rw [ta_ss, decide_eq_true h1], fun e => rfl⟩
  · exact ⟨⟨#[]⟩, fun W => by rw [ta_ls, decide_eq_false h2], fun e => absurd e h2⟩
theorem any_int {w : World} {x : S38} {u : Value} (h : AnyAt w x u) : ∃ n, (∀ W, (Instr.typeAssert u 70 3 true).run Tryz.prog W = .ok (.tuple #[.int .i64 n, .bool (decide (x.f0 = 1))]) W) ∧ (x.f0 = 1 → n = x.f1) := by
  rcases any_cases h with ⟨h1, rfl⟩ | ⟨h1, rfl⟩ | ⟨h1, h2, A, c, rfl, _, _⟩
  · exact ⟨x.f1, fun W => by rw [ta_ii, decide_eq_true h1], fun e => rfl⟩
  · exact ⟨0, fun W => by rw [ta_si, decide_eq_false (by omega)], fun e => by omega⟩
  · exact ⟨0, fun W => by rw [ta_li, decide_eq_false h1], fun e => absurd e h1⟩
theorem any_list {w : World} {x : S38} {u : Value} (h : AnyAt w x u) : ∃ A n c, (∀ W, (Instr.typeAssert u 70 103 true).run Tryz.prog W = .ok (.tuple #[.slice A n c, .bool (isL x)]) W) ∧ (isL x = true → n = x.f3.length ∧ n ≤ c ∧ kA.C w A n x.f3) := by
  rcases any_cases h with ⟨h1, rfl⟩ | ⟨h1, rfl⟩ | ⟨h1, h2, A, c, rfl, hl, hC⟩
  · have : isL x = false := by unfold isL; rw [decide_eq_true h1]; rfl
    exact ⟨none, 0, 0, fun W => by rw [ta_il, this], fun e => by rw [this] at e; cases e⟩
  · have : isL x = false := by unfold isL; rw [decide_eq_true h1]; simp
    exact ⟨none, 0, 0, fun W => by rw [ta_sl, this], fun e => by rw [this] at e; cases e⟩
  · exact ⟨A, x.f3.length, c, fun W => by rw [ta_ll, isL_of h1 h2], fun _ => ⟨rfl, hl, hC⟩⟩
def kidsD : List S38 → Option (List S52)
  | [] => some []
  | x :: xs => match kidD x with | none => none | some r => (kidsD xs).map (r :: ·)
theorem kidsD_step {l : List S38} {i : Nat} {x : S38} (h : l[i]? = some x) : kidsD (l.drop i) = match kidD x with | none => none | some r => (kidsD (l.drop (i + 1))).map (r :: ·) := by
  obtain ⟨hi, hx⟩ := List.getElem?_eq_some_iff.1 h
  rw [List.drop_eq_getElem_cons hi, kidsD, hx]
abbrev rK (W : World) (base : Nat) (v : Value) (l : List S52) : Prop := Kd.R k52 52 W base (fun _ => True) v l
theorem infoKid : (Tryz.prog.info? 52).map (fun i => (i.zero, i.size, i.bytes)) = some (some (.agg #[.int .u8 0, .string (⟨#[]⟩ : ByteArray)]), 2, 24) := by kernel_rfl
theorem append_kid {W : World} {b0 : Nat} {v : Value} {acc : List S52} {x : S52} {g : Nat} (hR : rK W b0 v acc) (hb0 : b0 ≤ W.heap.size)
    (hg : W.heap[g]? = some (.cells #[.int .u8 x.f0, .string x.f1] 52 (0, 0))) (hn : acc.length ≤ 1000000) (ty : TypeId) :
    ∃ v' W', (Builtin.append_ #[24, 24] ty #[v, .slice (some ⟨g, 0, none⟩) 1 1]).run Tryz.prog W = .ok v' W' ∧ W.grownBy W' v.ownBlock ∧ rK W' b0 v' (acc ++ [x]) := by
  obtain ⟨i0, hi0, hz0, hz1, hz2⟩ := info_parts infoKid
  have hgs := (Array.getElem?_eq_some_iff.1 hg).1
  obtain ⟨h0, inner, hown, hreps⟩ := hR
  have hbn : (acc.length + 1) * 24 ≤ 1000001 * 24 := Nat.mul_le_mul (by omega) (Nat.le_refl _)
  obtain ⟨h, cap, W', hr, hown', hgr, hat, _⟩ := run_append_lies (P := Tryz.prog) W 24 ty b0 52 i0 _ 2 24 Tryz.underlying24 hi0 hz0 hz1 hz2 (by rfl) (by decide) v acc.length _ hown ⟨g, 0, none⟩ 1 1 [.int .u8 x.f0, .string x.f1]
    (by rfl) (World.news_of_block (cs := #[.int .u8 x.f0, .string x.f1]) hg) (by
      intro u hu
      simp only [List.mem_cons, List.not_mem_nil, or_false] at hu
      rcases hu with rfl | rfl <;> rfl) (by decide) (by unfold maxLen; omega) (by omega) hb0 W.heap.size rfl
  have hm3 : Kd.M k52 W b0 (fun _ => False) x [.int .u8 x.f0, .string x.f1] := k52_mkM W b0 _ x
  have hres := Kd.R_appended (d := k52) (e := 52) (base := b0) (ok := fun _ => True) (W := W) (w1 := W') (v := v) (v1 := .slice (some ⟨h, 0, none⟩) (acc.length + 1) cap) h0 hreps hm3 (fun k hk => hk.elim) (fun k hk => trivial) hown' hgr
    (hat.elim (fun e => .inl (by rw [e]; rfl)) (fun e => .inr ⟨h, rfl, by omega⟩))
  exact ⟨_, W', hr, hgr, hres⟩
def zOb : Ob := ⟨0, ⟨#[]⟩, [], [], [], 0, ⟨#[]⟩, ⟨#[]⟩⟩
def nodeD (a b c : S38) : Option Ob :=
  if a.f0 = 2 ∧ (takenR b).2 = true ∧ isL c = true then (kidsD c.f3).map (fun ks => ⟨1, a.f2, (takenR b).1, ks, [], 0, ⟨#[]⟩, ⟨#[]⟩⟩) else none
abbrev rS (W : World) (base : Nat) (v : Value) (l : List ByteArray) : Prop := Kd.R Kd.string 9 W base (fun _ => True) v l
/-- An object's lists are the call's own. -/
structure ObR (w : World) (base : Nat) (o : Ob) (Ar : Option Addr) (cr : Nat) (Ak : Option Addr) (ck : Nat) (Ap : Option Addr) (cp : Nat) : Prop where
  r : rR w base (.slice Ar o.rows.length cr) o.rows
  k : rK w base (.slice Ak o.kids.length ck) o.kids
  p : rS w base (.slice Ap o.parents.length cp) o.parents
theorem ObR.at_ {w : World} {base : Nat} {o : Ob} {Ar : Option Addr} {cr : Nat} {Ak : Option Addr} {ck : Nat} {Ap : Option Addr} {cp : Nat} (h : ObR w base o Ar cr Ak ck Ap cp) : ObAt w o Ar cr Ak ck Ap cp := by
  obtain ⟨_, h1, h2⟩ := Kd.R_reads' h.r
  obtain ⟨_, h3, h4⟩ := Kd.R_reads' h.k
  obtain ⟨_, h5, h6⟩ := Kd.R_reads' h.p
  exact ⟨h2, h1, h4, h3, h6, h5⟩
theorem ObR.move {w W : World} {base base' : Nat} {o : Ob} {Ar : Option Addr} {cr : Nat} {Ak : Option Addr} {ck : Nat} {Ap : Option Addr} {cp : Nat} (h : ObR w base o Ar cr Ak ck Ap cp) (hm : ∀ k, base ≤ k → k < w.heap.size → W.heap[k]? = w.heap[k]?) (hb : base' ≤ base) : ObR W base' o Ar cr Ak ck Ap cp :=
  ⟨Kd.R_mono (Kd.R_lower (Kd.R_step (Kd.R_bound h.r) (fun k hk hl => hm k hk.2.1 hl)) hb) (fun _ _ => trivial), Kd.R_mono (Kd.R_lower (Kd.R_step (Kd.R_bound h.k) (fun k hk hl => hm k hk.2.1 hl)) hb) (fun _ _ => trivial), Kd.R_mono (Kd.R_lower (Kd.R_step (Kd.R_bound h.p) (fun k hk hl => hm k hk.2.1 hl)) hb) (fun _ _ => trivial)⟩
/-- An object, and whether there is one. -/
def ObPost (r : Option Ob) (w : World) (e : Ending) (w' : World) : Prop :=
  ∃ Ar cr Ak ck Ap cp, e = .returned (.tuple #[.agg (obV (r.getD zOb) Ar cr Ak ck Ap cp), .bool r.isSome]) ∧ ObR w' w.heap.size (r.getD zOb) Ar cr Ak ck Ap cp ∧ Below w.heap.size w w'
def obZ : Array Value := #[.int .i64 0, .string (⟨#[]⟩ : ByteArray), .slice none 0 0, .slice none 0 0, .slice none 0 0, .int .i64 0, .string (⟨#[]⟩ : ByteArray), .string (⟨#[]⟩ : ByteArray)]
theorem ObR_zero (w : World) (base : Nat) : ObR w base zOb none 0 none 0 none 0 := ⟨Kd.R_nil _ _ _ _ _, Kd.R_nil _ _ _ _ _, Kd.R_nil _ _ _ _ _⟩
def put8 (W : World) (g : Nat) (a0 a1 a2 a3 a4 a5 a6 a7 : Value) : World := (((((((W.setCell ⟨g, 0, none⟩ a0).setCell ⟨g, 1, none⟩ a1).setCell ⟨g, 2, none⟩ a2).setCell ⟨g, 3, none⟩ a3).setCell ⟨g, 4, none⟩ a4).setCell ⟨g, 5, none⟩ a5).setCell ⟨g, 6, none⟩ a6).setCell ⟨g, 7, none⟩ a7
theorem put8_same {W : World} {g : Nat} {t : TypeId} {c0 c1 c2 c3 c4 c5 c6 c7 : Value} (h : W.heap[g]? = some (.cells #[c0, c1, c2, c3, c4, c5, c6, c7] t (0, 0))) (a0 a1 a2 a3 a4 a5 a6 a7 : Value) :
    (put8 W g a0 a1 a2 a3 a4 a5 a6 a7).heap[g]? = some (.cells #[a0, a1, a2, a3, a4, a5, a6, a7] t (0, 0)) := by
  unfold put8
  have h0 := blk_put (cs' := #[a0, c1, c2, c3, c4, c5, c6, c7]) h 0 a0 rfl
  generalize W.setCell ⟨g, 0, none⟩ a0 = W0 at h0 ⊢
  have h1 := blk_put (cs' := #[a0, a1, c2, c3, c4, c5, c6, c7]) h0 1 a1 rfl
  generalize W0.setCell ⟨g, 1, none⟩ a1 = W1 at h1 ⊢
  have h2 := blk_put (cs' := #[a0, a1, a2, c3, c4, c5, c6, c7]) h1 2 a2 rfl
  generalize W1.setCell ⟨g, 2, none⟩ a2 = W2 at h2 ⊢
  have h3 := blk_put (cs' := #[a0, a1, a2, a3, c4, c5, c6, c7]) h2 3 a3 rfl
  generalize W2.setCell ⟨g, 3, none⟩ a3 = W3 at h3 ⊢
  have h4 := blk_put (cs' := #[a0, a1, a2, a3, a4, c5, c6, c7]) h3 4 a4 rfl
  generalize W3.setCell ⟨g, 4, none⟩ a4 = W4 at h4 ⊢
  have h5 := blk_put (cs' := #[a0, a1, a2, a3, a4, a5, c6, c7]) h4 5 a5 rfl
  generalize W4.setCell ⟨g, 5, none⟩ a5 = W5 at h5 ⊢
  have h6 := blk_put (cs' := #[a0, a1, a2, a3, a4, a5, a6, c7]) h5 6 a6 rfl
  generalize W5.setCell ⟨g, 6, none⟩ a6 = W6 at h6 ⊢
  exact blk_put (cs' := #[a0, a1, a2, a3, a4, a5, a6, a7]) h6 7 a7 rfl
theorem sc_os (W : World) (p : Addr) (v : Value) : (W.setCell p v).os = W.os := rfl
theorem sc_tape (W : World) (p : Addr) (v : Value) : (W.setCell p v).tape = W.tape := rfl
theorem sc_output (W : World) (p : Addr) (v : Value) : (W.setCell p v).output = W.output := rfl
theorem sc_size (W : World) (p : Addr) (v : Value) : (W.setCell p v).heap.size = W.heap.size := by simp [World.setCell]
theorem put8_far {W : World} {g k : Nat} (h : k ≠ g) (a0 a1 a2 a3 a4 a5 a6 a7 : Value) : (put8 W g a0 a1 a2 a3 a4 a5 a6 a7).heap[k]? = W.heap[k]? := by
  unfold put8
  rw [set_far _ _ _ _ _ h, set_far _ _ _ _ _ h, set_far _ _ _ _ _ h, set_far _ _ _ _ _ h, set_far _ _ _ _ _ h, set_far _ _ _ _ _ h, set_far _ _ _ _ _ h, set_far _ _ _ _ _ h]
theorem put8_size (W : World) (g : Nat) (a0 a1 a2 a3 a4 a5 a6 a7 : Value) : (put8 W g a0 a1 a2 a3 a4 a5 a6 a7).heap.size = W.heap.size := by unfold put8; simp only [sc_size]
theorem put8_below {w W : World} {g B : Nat} (h : Below B w W) (hg : B ≤ g) (a0 a1 a2 a3 a4 a5 a6 a7 : Value) : Below B w (put8 W g a0 a1 a2 a3 a4 a5 a6 a7) :=
  ⟨by unfold put8; simp only [sc_os]; exact h.os, by unfold put8; simp only [sc_tape]; exact h.tape, by unfold put8; simp only [sc_output]; exact h.output, by rw [put8_size]; exact h.size, fun k hk => (put8_far (by omega) _ _ _ _ _ _ _ _).trans (h.block k hk)⟩
theorem frozen8 {W : World} {g : Nat} {t : TypeId} {cs : Array Value} (h : W.heap[g]? = some (.cells cs t (0, 0))) : (W.frozen? ⟨g, 0, none⟩ = false ∧ W.frozen? ⟨g, 1, none⟩ = false ∧ W.frozen? ⟨g, 2, none⟩ = false ∧ W.frozen? ⟨g, 3, none⟩ = false) ∧ W.frozen? ⟨g, 4, none⟩ = false ∧ W.frozen? ⟨g, 5, none⟩ = false ∧ W.frozen? ⟨g, 6, none⟩ = false ∧ W.frozen? ⟨g, 7, none⟩ = false :=
  ⟨⟨Lib.frozen_of_heap h 0, Lib.frozen_of_heap h 1, Lib.frozen_of_heap h 2, Lib.frozen_of_heap h 3⟩, Lib.frozen_of_heap h 4, Lib.frozen_of_heap h 5, Lib.frozen_of_heap h 6, Lib.frozen_of_heap h 7⟩
theorem results_ob {fn : Func} (hfn : fn.results = #[.cell 2 27, .tmp 3]) (tmps : Array Value) (w : World) (c : Nat) (a0 a1 a2 a3 a4 a5 a6 a7 b : Value) (h2 : tmps.getD 2 undef = .pointer (some ⟨c, 0, none⟩)) (h3 : tmps.getD 3 undef = b)
    (hc : w.heap[c]? = some (.cells #[a0, a1, a2, a3, a4, a5, a6, a7] 27 (0, 0))) :
    (results fn tmps).run Tryz.prog w = .ok (.tuple #[.agg #[a0, a1, a2, a3, a4, a5, a6, a7], b]) w := by
  have h2' : tmps[2]?.getD undef = .pointer (some ⟨c, 0, none⟩) := by simpa using h2
  have h3' : tmps[3]?.getD undef = b := by simpa using h3
  obtain ⟨⟨k0, k1, k2, k3⟩, k4, k5, k6, k7⟩ := box8 hc
  simp [results, hfn, h2', h3', asAddr, k0, k1, k2, k3, k4, k5, k6, k7, go_sem]
theorem ob_results : (Tryz.f55).results = #[.cell 2 27, .tmp 3] := Tryz.results55
end Go.Proofs.YtgjlchcfdbmmlaaGreatDoor.PObjectPuts
namespace Go.Proofs.YtgjlchcfdbmmlaaGreatDoor.PObjectPuts
open Go.RowKit Go.Proofs.YtgjlchcfdbmmlaaGreatDoor.Ord Go.Proofs.YtgjlchcfdbmmlaaGreatDoor.Obj Go.Proofs.YtgjlchcfdbmmlaaGreatDoorW.PrintWords Go.Proofs.YtgjlchcfdbmmlaaGreatDoorW.PrintLast Go.Proofs.YtgjlchcfdbmmlaaGreatDoorW.PrintMore
attribute [local irreducible] OpGives

/-- What holds between the rounds: the object's box g, its kids' row. -/
structure NodeIn (w2 : World) (g : Nat) (lab : ByteArray) (rv : Value) (v : Value) (acc : List S52) (W : World) : Prop where
  below : Below w2.heap.size w2 W
  ge : w2.heap.size ≤ g
  blk : W.heap[g]? = some (.cells #[.int .i64 1, .string lab, rv, v, .slice none 0 0, .int .i64 0, .string (⟨#[]⟩ : ByteArray), .string (⟨#[]⟩ : ByteArray)] 27 (0, 0))
  row : rK W (g + 1) v acc
theorem NodeIn.later {w2 W W' : World} {g : Nat} {lab : ByteArray} {rv v : Value} {acc : List S52} (h : NodeIn w2 g lab rv v acc W) (hb : Below W.heap.size W W') : NodeIn w2 g lab rv v acc W' :=
  ⟨h.below.trans (hb.mono h.below.size), h.ge, (hb.block g (Array.getElem?_eq_some_iff.1 h.blk).1).trans h.blk, Kd.R_below h.row hb⟩
theorem NodeIn.step {w2 W W' : World} {g : Nat} {lab : ByteArray} {rv v v' : Value} {acc acc' : List S52} (h : NodeIn w2 g lab rv v acc W) (hg : W.grownBy W' v.ownBlock) (hr : rK W' (g + 1) v' acc') :
    NodeIn w2 g lab rv v' acc' (W'.setCell ⟨g, 3, none⟩ v') := by
  obtain ⟨_, inner, hown, _⟩ := h.row
  have hgl := (Array.getElem?_eq_some_iff.1 h.blk).1
  have hne : ∀ k, k < g + 1 → some k ≠ v.ownBlock := fun k hk e => by have := own_base hown k e.symm; omega
  have hblk := (hg.block g hgl (hne g (by omega))).trans h.blk
  have hs := h.below.size
  have hb : Below w2.heap.size w2 W' := ⟨hg.os.trans h.below.os, hg.tape.trans h.below.tape, hg.output.trans h.below.output, Nat.le_trans hs hg.size, fun k hk => (hg.block k (by omega) (hne k (by have := h.ge; omega))).trans (h.below.block k hk)⟩
  refine ⟨⟨hb.os, hb.tape, hb.output, by rw [sc_size]; exact hb.size, fun k hk => (set_far _ _ _ _ _ (by have := h.ge; omega)).trans (hb.block k hk)⟩, h.ge, blk_put (cs' := #[.int .i64 1, .string lab, rv, v', .slice none 0 0, .int .i64 0, .string (⟨#[]⟩ : ByteArray), .string (⟨#[]⟩ : ByteArray)]) hblk 3 v' rfl, ?_⟩
  exact Kd.R_mono (Kd.R_step (Kd.R_bound hr) (fun k hk _ => set_far _ _ _ _ _ (by have := hk.2.1; omega))) (fun _ _ => trivial)
set_option maxHeartbeats 16000000 in
set_option maxRecDepth 100000 in
theorem nodeOf_calls (a b d : S38) (A : Option Addr) (c : Nat) (w : World) (hA : kA.C w A 3 [a, b, d]) (hbl : b.f3.length ≤ 1000000) (hdl : d.f3.length ≤ 1000000) (hT : Lib.Utf8Tabs 0 1 w) :
    Calls Tryz.prog 55 #[.slice A 3 c] w (ObPost (nodeD a b d) w) := by
  obtain ⟨ad, u0, rfl, c0, k0, hb0⟩ := any_at (l := [a, b, d]) hA (i := 0) (x := a) rfl
  obtain ⟨ad1, u1, e1, c1, k1, hb1⟩ := any_at (l := [a, b, d]) hA (i := 1) (x := b) rfl
  obtain ⟨ad2, u2, e2, c2, k2, hb2⟩ := any_at (l := [a, b, d]) hA (i := 2) (x := d) rfl
  cases e1; cases e2
  rw [show ad.add 0 = ad from by simp [Addr.add]] at c0 hb0
  have c1 := three_at 1 (by decide) c1
  have c2 := three_at 2 (by decide) c2
  obtain ⟨s0, ta0, hs0⟩ := any_str k0
  obtain ⟨A2, n2, p2, ta2, hl2⟩ := any_list k2
  obtain ⟨W1, hW1⟩ : ∃ W1, W1 = w.alloc (.cells obZ 27) := ⟨_, rfl⟩
  have hn1 : Below w.heap.size w W1 := by rw [hW1]; exact (Below.refl _ _).alloc (Nat.le_refl _) _
  have hg1 : W1.heap[w.heap.size]? = some (.cells obZ 27 (0, 0)) := by rw [hW1]; exact alloc_lastV _ _
  have hs1 : W1.heap.size = w.heap.size + 1 := by rw [hW1]; simp
  have HT := Lib.hid (taken_calls b u1 W1 (k1.below hn1) hbl (Utf8Tabs_below hT hn1))
  have hcs : ∀ W, Below W1.heap.size W1 W → W.cell? ad = some u0 ∧ W.cell? ⟨ad.block, ad.off + 1, none⟩ = some u1 ∧ W.cell? ⟨ad.block, ad.off + 2, none⟩ = some u2 := fun W hW => by
    have h2 := hn1.trans (hW.mono hn1.size)
    exact ⟨pw_cell_below h2 c0, pw_cell_below h2 c1, pw_cell_below h2 c2⟩
  have HCS := Lib.hid hcs
  have HN1 := Lib.hid hn1
  have HG1 := Lib.hid hg1
  have HS1 := Lib.hid hs1
  have HL2 := Lib.hid hl2
  have HS0 := Lib.hid hs0
  unfold obZ at hW1
  have HW1 := Lib.hid hW1
  obtain ⟨RP, hRP⟩ : ∃ RP : Ending → World → Prop, RP = ObPost (nodeD a b d) w := ⟨_, rfl⟩
  rw [← hRP]
  unfold nodeD at hRP
  have HRP := Lib.hid hRP
  clear hA hs0 hl2 hcs hn1 hg1 hs1 hW1 hRP k0 k1 k2 hb1 hb2 hT
  generalize hb1e : decide (a.f0 = 2) = B1 at ta0
  generalize hb3e : isL d = B3 at ta2 HL2
  have HB1 := Lib.hid hb1e
  have HB3 := Lib.hid hb3e
  clear hb1e hb3e
  go_enter Tryz.func55, Tryz.ntmps55
  go_wp2_with fail
  rw [← HW1.out]
  refine HT.out.mono ?_
  rintro e W2 ⟨Ar, cr, rfl, hCr, hb2⟩
  generalize htk : (takenR b).1 = rws at hCr
  generalize htb : (takenR b).2 = B2
  obtain ⟨d0, d1, d2⟩ := HCS.out W2 hb2
  have hg2 := (hb2.block _ (Array.getElem?_eq_some_iff.1 HG1.out).1).trans HG1.out
  have hbw : Below w.heap.size w W2 := HN1.out.trans (hb2.mono HN1.out.size)
  unfold obZ at hg2
  have hs12 : w.heap.size < W2.heap.size := (Array.getElem?_eq_some_iff.1 hg2).1
  have HG2 := Lib.hid hg2
  have HBW := Lib.hid hbw
  have HS12 := Lib.hid hs12
  have HCR := Lib.hid hCr
  have HTK := Lib.hid (And.intro htk htb)
  have hnone : ((B1 && B2) && B3) = false → ∀ W, Below w.heap.size w W → W.heap[w.heap.size]? = some (.cells obZ 27 (0, 0)) → ∀ tmps : Array Value, tmps.getD 2 undef = .pointer (some ⟨w.heap.size, 0, none⟩) → tmps.getD 3 undef = .bool false →
      bodyPost Tryz.prog Tryz.f55 RP Exit.ret { tmps := tmps, defers := [] } W := fun h W hW hg tmps t2 t3 => by
    refine bodyPost_ret (results_ob ob_results _ _ w.heap.size _ _ _ _ _ _ _ _ _ t2 t3 hg) rfl ?_
    rw [HRP.out, if_neg (by
      rintro ⟨x1, x2, x3⟩
      rw [← HB1.out, ← HB3.out, ← HTK.out.2, decide_eq_true x1, x2, x3] at h
      cases h)]
    exact ⟨none, 0, none, 0, none, 0, rfl, ObR_zero _ _, hW⟩
  have HNONE := Lib.hid hnone
  clear htk htb hCr hb2 hg2 hbw c0 c1 c2 hnone hs12
  cases B1 with
  | false =>
    obtain ⟨⟨z0, z1, z2, z3⟩, z4, z5, z6, z7⟩ := box8 HG2.out
    obtain ⟨⟨f0, f1, f2, f3⟩, f4, f5, f6, f7⟩ := frozen8 HG2.out
    go_wp2_with fail
    refine HNONE.out (by first | rfl | simp) (put8 W2 w.heap.size (.int .i64 0) (.string (⟨#[]⟩ : ByteArray)) (.slice none 0 0) (.slice none 0 0) (.slice none 0 0) (.int .i64 0) (.string (⟨#[]⟩ : ByteArray)) (.string (⟨#[]⟩ : ByteArray))) (put8_below HBW.out (Nat.le_refl _) _ _ _ _ _ _ _ _) (put8_same HG2.out _ _ _ _ _ _ _ _) _ rfl rfl
  | true =>
    cases B2 with
    | false =>
      obtain ⟨⟨z0, z1, z2, z3⟩, z4, z5, z6, z7⟩ := box8 HG2.out
      obtain ⟨⟨f0, f1, f2, f3⟩, f4, f5, f6, f7⟩ := frozen8 HG2.out
      go_wp2_with fail
      refine HNONE.out (by first | rfl | simp) (put8 W2 w.heap.size (.int .i64 0) (.string (⟨#[]⟩ : ByteArray)) (.slice none 0 0) (.slice none 0 0) (.slice none 0 0) (.int .i64 0) (.string (⟨#[]⟩ : ByteArray)) (.string (⟨#[]⟩ : ByteArray))) (put8_below HBW.out (Nat.le_refl _) _ _ _ _ _ _ _ _) (put8_same HG2.out _ _ _ _ _ _ _ _) _ rfl rfl
    | true =>
      cases B3 with
      | false =>
        obtain ⟨⟨z0, z1, z2, z3⟩, z4, z5, z6, z7⟩ := box8 HG2.out
        obtain ⟨⟨f0, f1, f2, f3⟩, f4, f5, f6, f7⟩ := frozen8 HG2.out
        go_wp2_with fail
        refine HNONE.out (by first | rfl | simp) (put8 W2 w.heap.size (.int .i64 0) (.string (⟨#[]⟩ : ByteArray)) (.slice none 0 0) (.slice none 0 0) (.slice none 0 0) (.int .i64 0) (.string (⟨#[]⟩ : ByteArray)) (.string (⟨#[]⟩ : ByteArray))) (put8_below HBW.out (Nat.le_refl _) _ _ _ _ _ _ _ _) (put8_same HG2.out _ _ _ _ _ _ _ _) _ rfl rfl
      | true =>
        obtain ⟨hn2, hn2c, hC2⟩ := HL2.out rfl
        obtain ⟨l, hl⟩ : ∃ l, l = d.f3 := ⟨_, rfl⟩
        rw [← hl] at hn2 hC2 hdl
        subst hn2
        obtain ⟨K, hK⟩ : ∃ K, K = kidsD l := ⟨_, rfl⟩
        have hfin : ∀ e W, RP e W ↔ ObPost (K.map fun ks => ⟨1, s0, rws, ks, [], 0, ⟨#[]⟩, ⟨#[]⟩⟩) w e W := fun e W => by
          have x1 : a.f0 = 2 := of_decide_eq_true HB1.out
          rw [HRP.out, if_pos ⟨x1, HTK.out.2, HB3.out⟩, hK, hl, ← HS0.out x1, HTK.out.1]
        have HFIN := Lib.hid hfin
        have HC2 := Lib.hid (Kd.C_below hC2 HBW.out)
        have HKK := Lib.hid (show K = (kidsD (l.drop 0)).map (([] : List S52) ++ ·) by rw [hK, List.drop_zero]; simp)
        clear hfin hC2 hK hl HNONE
        go_wp2_with fail
        obtain ⟨W3, hW3⟩ : ∃ W3, W3 = W2.alloc (.cells #[.int .i64 1, .string s0, .slice Ar rws.length cr, .slice none 0 0, .slice none 0 0, .int .i64 0, .string (⟨#[]⟩ : ByteArray), .string (⟨#[]⟩ : ByteArray)] 27) := ⟨_, rfl⟩
        rw [← hW3]
        have hni : NodeIn W2 W2.heap.size s0 (.slice Ar rws.length cr) (.slice none 0 0) [] W3 :=
          ⟨by rw [hW3]; exact (Below.refl _ _).alloc (Nat.le_refl _) _, Nat.le_refl _, by rw [hW3]; exact alloc_lastV _ _, Kd.R_nil _ _ _ _ _⟩
        have HNI := Lib.hid hni
        clear hni hW3 d0 d1 d2
        go_loopw [52] (fun i wr => ∃ (j : Nat) (acc : List S52) (v : Value), i = .int .i64 (j : Int) ∧ j ≤ l.length ∧ acc.length = j ∧ NodeIn W2 W2.heap.size s0 (.slice Ar rws.length cr) v acc wr ∧ Hid (K = (kidsD (l.drop j)).map (acc ++ ·))) (fun i _ => l.length - (intOf i).toNat)
        case atStart => exact ⟨0, [], _, rfl, Nat.zero_le _, rfl, HNI.out, HKK⟩
        case round =>
          obtain ⟨i, acc, v, rfl, hi, hal, hni, hr⟩ := hrel
          obtain ⟨Av, cv, rfl, hvc, hvC⟩ := Kd.R_reads hni.row
          have HNJ := Lib.hid hni
          have HAL := Lib.hid hal
          have HBR := Lib.hid (HBW.out.trans (hni.below.mono HBW.out.size))
          have HGR := Lib.hid ((hni.below.block _ HS12.out).trans HG2.out)
          by_cases hil : i < l.length
          · obtain ⟨x, hx⟩ : ∃ x, l[i]? = some x := ⟨_, List.getElem?_eq_getElem hil⟩
            obtain ⟨ad', u, rfl, c0, hu, hbk⟩ := any_at (Kd.C_below HC2.out hni.below) hx
            have hr2 := hr.out
            rw [kidsD_step hx] at hr2
            have HR2 := Lib.hid hr2
            have hcall := kid_calls x u wr hu
            clear hr2 hr hx hu hni hal hvC
            cases hkd : kidD x with
            | none =>
              rw [hkd] at hcall HR2
              have HC := Lib.hid hcall
              have hK : K = none := HR2.out
              have HK := Lib.hid hK
              clear hcall hkd HR2 hK
              go_wp2_with fail
              refine HC.out.mono ?_
              rintro e W4 ⟨rfl, hb4⟩
              have hb4w := HBR.out.trans (hb4.mono HBR.out.size)
              have hg4 := (hb4.block _ (Array.getElem?_eq_some_iff.1 HGR.out).1).trans HGR.out
              obtain ⟨W5, hW5⟩ : ∃ W5, W5 = W4.alloc (.cells #[.int .u8 0, .string (⟨#[]⟩ : ByteArray)] 52) := ⟨_, rfl⟩
              have hn5 : Below W4.heap.size W4 W5 := by rw [hW5]; exact (Below.refl _ _).alloc (Nat.le_refl _) _
              have hg5 := (hn5.block _ (Array.getElem?_eq_some_iff.1 hg4).1).trans hg4
              have hb5 := hb4w.trans (hn5.mono hb4w.size)
              obtain ⟨⟨z0, z1, z2, z3⟩, z4, z5, z6, z7⟩ := box8 hg5
              obtain ⟨⟨f0, f1, f2, f3⟩, f4, f5, f6, f7⟩ := frozen8 hg5
              have HG5 := Lib.hid hg5
              have HB5 := Lib.hid hb5
              rw [hW5] at z0 z1 z2 z3 z4 z5 z6 z7 f0 f1 f2 f3 f4 f5 f6 f7
              have HW5 := Lib.hid hW5
              clear hb4 hb4w hg4 hn5 hg5 hb5 hW5
              unfold kidVal z52
              simp only [Option.getD_none, Option.isSome_none]
              go_wp2_with fail
              rw [← HW5.out]
              refine bodyPost_ret (results_ob ob_results _ _ w.heap.size _ _ _ _ _ _ _ _ _ rfl rfl (put8_same HG5.out (.int .i64 0) (.string (⟨#[]⟩ : ByteArray)) (.slice none 0 0) (.slice none 0 0) (.slice none 0 0) (.int .i64 0) (.string (⟨#[]⟩ : ByteArray)) (.string (⟨#[]⟩ : ByteArray)))) rfl ?_
              rw [HFIN.out, HK.out]
              exact ⟨none, 0, none, 0, none, 0, rfl, ObR_zero _ _, put8_below HB5.out (Nat.le_refl _) _ _ _ _ _ _ _ _⟩
            | some y =>
              rw [hkd] at hcall HR2
              have HC := Lib.hid hcall
              clear hcall hkd
              go_wp2_with fail
              refine HC.out.mono ?_
              rintro e W4 ⟨rfl, hb4⟩
              obtain ⟨W5, hW5⟩ : ∃ W5, W5 = W4.alloc (.cells #[.int .u8 y.f0, .string y.f1] 52) := ⟨_, rfl⟩
              have hn5 : Below W4.heap.size W4 W5 := by rw [hW5]; exact (Below.refl _ _).alloc (Nat.le_refl _) _
              obtain ⟨W6, hW6⟩ : ∃ W6, W6 = W5.alloc (.cells #[.int .u8 y.f0, .string y.f1] 52) := ⟨_, rfl⟩
              have hn6 : Below W5.heap.size W5 W6 := by rw [hW6]; exact (Below.refl _ _).alloc (Nat.le_refl _) _
              have hg6 : W6.heap[W5.heap.size]? = some (.cells #[.int .u8 y.f0, .string y.f1] 52 (0, 0)) := by rw [hW6]; exact alloc_lastV _ _
              have hbw6 : Below wr.heap.size wr W6 := (hb4.trans (hn5.mono hb4.size)).trans (hn6.mono (Nat.le_trans hb4.size hn5.size))
              have hni6 := HNJ.out.later hbw6
              have hni5 := HNJ.out.later (hb4.trans (hn5.mono hb4.size))
              have hgl := (Array.getElem?_eq_some_iff.1 hni6.blk).1
              obtain ⟨v8, W8, hr8, hg8, hR8⟩ := append_kid (b0 := W2.heap.size + 1) hni6.row (by omega) hg6 (by have := HAL.out; omega) 24
              obtain ⟨A8, c8, rfl, _, _⟩ := Kd.R_reads hR8
              have hst := hni6.step hg8 hR8
              obtain ⟨_, inner, hown, _⟩ := hni6.row
              have hblk8 := (hg8.block W2.heap.size hgl (fun e => by have := own_base hown _ e.symm; omega)).trans hni6.blk
              have y3 : W8.cell? ⟨W2.heap.size, 3, none⟩ = some (.slice Av acc.length cv) := (box8 hblk8).1.2.2.2
              have x3 : W8.frozen? ⟨W2.heap.size, 3, none⟩ = false := Lib.frozen_of_heap hblk8 3
              have w3 : W5.cell? ⟨W2.heap.size, 3, none⟩ = some (.slice Av acc.length cv) := (box8 hni5.blk).1.2.2.2
              have HST := Lib.hid hst
              have hs5 : W5.heap.size = W4.heap.size + 1 := by rw [hW5]; simp
              rw [hs5, hW6, hW5] at hr8
              have HAPP := Lib.hid hr8
              rw [hW5] at w3
              have HR9 := Lib.hid (show K = (kidsD (l.drop (i + 1))).map ((acc ++ [y]) ++ ·) by
                rw [HR2.out, Option.map_map]; congr 1; funext z; simp)
              clear hst hR8 hg8 hni6 hni5 hbw6 hg6 hn6 hW6 hn5 hW5 hb4 hr8 hs5 hown hblk8 hgl
              unfold kidVal
              simp only [Option.getD_some, Option.isSome_some]
              go_wp2_with (refine wpList_value rfl (exec_append _ _ 24 rfl HAPP.out) ?_)
              go_roundw
              case rel => exact ⟨i + 1, acc ++ [y], _, by go_num, hil, by rw [List.length_append]; have := HAL.out; simp; omega, by have := HST.out; rwa [List.length_append, List.length_singleton] at this, HR9⟩
              case measure => simp [intOf]; omega
          · have hie : i = l.length := by omega
            have hr2 := hr.out
            rw [hie, List.drop_length, kidsD, Option.map_some, List.append_nil] at hr2
            have HK := Lib.hid hr2
            obtain ⟨⟨z0, z1, z2, z3⟩, z4, z5, z6, z7⟩ := box8 HGR.out
            obtain ⟨⟨f0, f1, f2, f3⟩, f4, f5, f6, f7⟩ := frozen8 HGR.out
            obtain ⟨⟨y0, y1, y2, y3⟩, y4, y5, y6, y7⟩ := box8 hni.blk
            have hp := put8_below (B := w.heap.size) HBR.out (Nat.le_refl _) (.int .i64 1) (.string s0) (.slice Ar rws.length cr) (.slice Av acc.length cv) (.slice none 0 0) (.int .i64 0) (.string (⟨#[]⟩ : ByteArray)) (.string (⟨#[]⟩ : ByteArray))
            have hsm := put8_same HGR.out (.int .i64 1) (.string s0) (.slice Ar rws.length cr) (.slice Av acc.length cv) (.slice none 0 0) (.int .i64 0) (.string (⟨#[]⟩ : ByteArray)) (.string (⟨#[]⟩ : ByteArray))
            have hob : ObR (put8 wr w.heap.size (.int .i64 1) (.string s0) (.slice Ar rws.length cr) (.slice Av acc.length cv) (.slice none 0 0) (.int .i64 0) (.string (⟨#[]⟩ : ByteArray)) (.string (⟨#[]⟩ : ByteArray))) w.heap.size ⟨1, s0, rws, acc, [], 0, ⟨#[]⟩, ⟨#[]⟩⟩ Ar cr Av cv none 0 := by
              have h1 : ObR wr W1.heap.size ⟨1, s0, rws, acc, [], 0, ⟨#[]⟩, ⟨#[]⟩⟩ Ar cr Av cv none 0 := ⟨Kd.R_below HCR.out hni.below, Kd.R_lower hni.row (by have := HS12.out; have := HS1.out; omega), Kd.R_nil _ _ _ _ _⟩
              exact h1.move (fun k hk _ => put8_far (by have := HS1.out; omega) _ _ _ _ _ _ _ _) (by have := HS1.out; omega)
            have HP := Lib.hid hp
            have HSM := Lib.hid hsm
            have HOB := Lib.hid hob
            clear hie hr2 hr hni hvC hal hp hsm hob
            go_wp2_with fail
            refine bodyPost_ret (results_ob ob_results _ _ w.heap.size _ _ _ _ _ _ _ _ _ rfl rfl HSM.out) rfl ?_
            rw [HFIN.out, HK.out]
            exact ⟨Ar, cr, Av, cv, none, 0, rfl, HOB.out, HP.out⟩
end Go.Proofs.YtgjlchcfdbmmlaaGreatDoor.PObjectPuts
namespace Go.Proofs.YtgjlchcfdbmmlaaGreatDoor.PObjectPuts
open Go.RowKit Go.Proofs.YtgjlchcfdbmmlaaGreatDoor.Ord Go.Proofs.YtgjlchcfdbmmlaaGreatDoor.Obj Go.Proofs.YtgjlchcfdbmmlaaGreatDoorW.PrintWords Go.Proofs.YtgjlchcfdbmmlaaGreatDoorW.PrintLast Go.Proofs.YtgjlchcfdbmmlaaGreatDoorW.PrintMore
attribute [local irreducible] OpGives

def strsD : List S38 → Option (List ByteArray)
  | [] => some []
  | x :: xs => if x.f0 = 2 then (strsD xs).map (x.f2 :: ·) else none
theorem strsD_step {l : List S38} {i : Nat} {x : S38} (h : l[i]? = some x) : strsD (l.drop i) = if x.f0 = 2 then (strsD (l.drop (i + 1))).map (x.f2 :: ·) else none := by
  obtain ⟨hi, hx⟩ := List.getElem?_eq_some_iff.1 h
  rw [List.drop_eq_getElem_cons hi, strsD, hx]
theorem infoStr : (Tryz.prog.info? 9).map (fun i => (i.zero, i.size, i.bytes)) = some (some (.string (⟨#[]⟩ : ByteArray)), 1, 16) := by kernel_rfl
theorem append_str {W : World} {b0 : Nat} {v : Value} {acc : List ByteArray} {x : ByteArray} {g : Nat} (hR : rS W b0 v acc) (hb0 : b0 ≤ W.heap.size)
    (hg : W.heap[g]? = some (.cells #[.string x] 9 (0, 0))) (hn : acc.length ≤ 1000000) (ty : TypeId) :
    ∃ v' W', (Builtin.append_ #[25, 25] ty #[v, .slice (some ⟨g, 0, none⟩) 1 1]).run Tryz.prog W = .ok v' W' ∧ W.grownBy W' v.ownBlock ∧ rS W' b0 v' (acc ++ [x]) := by
  obtain ⟨i0, hi0, hz0, hz1, hz2⟩ := info_parts infoStr
  have hgs := (Array.getElem?_eq_some_iff.1 hg).1
  obtain ⟨h0, inner, hown, hreps⟩ := hR
  have hbn : (acc.length + 1) * 16 ≤ 1000001 * 16 := Nat.mul_le_mul (by omega) (Nat.le_refl _)
  obtain ⟨h, cap, W', hr, hown', hgr, hat, _⟩ := run_append_lies (P := Tryz.prog) W 25 ty b0 9 i0 _ 1 16 Tryz.underlying25 hi0 hz0 hz1 hz2 (by rfl) (by decide) v acc.length _ hown ⟨g, 0, none⟩ 1 1 [.string x]
    (by rfl) (World.news_of_block (cs := #[.string x]) hg) (by
      intro u hu
      rw [List.mem_singleton.1 hu]; rfl) (by decide) (by unfold maxLen; omega) (by omega) hb0 W.heap.size rfl
  have hm3 : Kd.M Kd.string W b0 (fun _ => False) x [.string x] := by unfold Kd.string Kd.scalar; first | rfl | exact rfl
  have hres := Kd.R_appended (d := Kd.string) (e := 9) (base := b0) (ok := fun _ => True) (W := W) (w1 := W') (v := v) (v1 := .slice (some ⟨h, 0, none⟩) (acc.length + 1) cap) h0 hreps hm3 (fun k hk => hk.elim) (fun k hk => trivial) hown' hgr
    (hat.elim (fun e => .inl (by rw [e]; rfl)) (fun e => .inr ⟨h, rfl, by omega⟩))
  exact ⟨_, W', hr, hgr, hres⟩
def commitD (a b c d : S38) : Option Ob :=
  if isL a = true ∧ b.f0 = 1 ∧ c.f0 = 2 ∧ d.f0 = 2 then (strsD a.f3).map (fun ps => ⟨2, ⟨#[]⟩, [], [], ps, b.f1, c.f2, d.f2⟩) else none
theorem ob_results2 : (Tryz.f56).results = #[.cell 2 27, .tmp 3] := Tryz.results56
/-- What holds between the rounds: the object's box g, its parents' row. -/
structure CommIn (w2 : World) (g : Nat) (st : Int) (nt rt : ByteArray) (v : Value) (acc : List ByteArray) (W : World) : Prop where
  below : Below w2.heap.size w2 W
  ge : w2.heap.size ≤ g
  blk : W.heap[g]? = some (.cells #[.int .i64 2, .string (⟨#[]⟩ : ByteArray), .slice none 0 0, .slice none 0 0, v, .int .i64 st, .string nt, .string rt] 27 (0, 0))
  row : rS W (g + 1) v acc
theorem CommIn.later {w2 W W' : World} {g : Nat} {st : Int} {nt rt : ByteArray} {v : Value} {acc : List ByteArray} (h : CommIn w2 g st nt rt v acc W) (hb : Below W.heap.size W W') : CommIn w2 g st nt rt v acc W' :=
  ⟨h.below.trans (hb.mono h.below.size), h.ge, (hb.block g (Array.getElem?_eq_some_iff.1 h.blk).1).trans h.blk, Kd.R_below h.row hb⟩
theorem CommIn.step {w2 W W' : World} {g : Nat} {st : Int} {nt rt : ByteArray} {v v' : Value} {acc acc' : List ByteArray} (h : CommIn w2 g st nt rt v acc W) (hg : W.grownBy W' v.ownBlock) (hr : rS W' (g + 1) v' acc') :
    CommIn w2 g st nt rt v' acc' (W'.setCell ⟨g, 4, none⟩ v') := by
  obtain ⟨_, inner, hown, _⟩ := h.row
  have hgl := (Array.getElem?_eq_some_iff.1 h.blk).1
  have hne : ∀ k, k < g + 1 → some k ≠ v.ownBlock := fun k hk e => by have := own_base hown k e.symm; omega
  have hblk := (hg.block g hgl (hne g (by omega))).trans h.blk
  have hs := h.below.size
  have hb : Below w2.heap.size w2 W' := ⟨hg.os.trans h.below.os, hg.tape.trans h.below.tape, hg.output.trans h.below.output, Nat.le_trans hs hg.size, fun k hk => (hg.block k (by omega) (hne k (by have := h.ge; omega))).trans (h.below.block k hk)⟩
  refine ⟨⟨hb.os, hb.tape, hb.output, by rw [sc_size]; exact hb.size, fun k hk => (set_far _ _ _ _ _ (by have := h.ge; omega)).trans (hb.block k hk)⟩, h.ge, blk_put (cs' := #[.int .i64 2, .string (⟨#[]⟩ : ByteArray), .slice none 0 0, .slice none 0 0, v', .int .i64 st, .string nt, .string rt]) hblk 4 v' rfl, ?_⟩
  exact Kd.R_mono (Kd.R_step (Kd.R_bound hr) (fun k hk _ => set_far _ _ _ _ _ (by have := hk.2.1; omega))) (fun _ _ => trivial)
set_option maxHeartbeats 16000000 in
set_option maxRecDepth 100000 in
theorem commitOf_calls (a b x2 d : S38) (A : Option Addr) (c : Nat) (w : World) (hA : kA.C w A 4 [a, b, x2, d]) (hal : a.f3.length ≤ 1000000) :
    Calls Tryz.prog 56 #[.slice A 4 c] w (ObPost (commitD a b x2 d) w) := by
  obtain ⟨ad, u0, rfl, c0, k0, hb0⟩ := any_at (l := [a, b, x2, d]) hA (i := 0) (x := a) rfl
  obtain ⟨ad1, u1, e1, c1, k1, hb1⟩ := any_at (l := [a, b, x2, d]) hA (i := 1) (x := b) rfl
  obtain ⟨ad2, u2, e2, c2, k2, hb2⟩ := any_at (l := [a, b, x2, d]) hA (i := 2) (x := x2) rfl
  obtain ⟨ad3, u3, e3, c3, k3, hb3⟩ := any_at (l := [a, b, x2, d]) hA (i := 3) (x := d) rfl
  cases e1; cases e2; cases e3
  rw [show ad.add 0 = ad from by simp [Addr.add]] at c0 hb0
  have c1 := three_at 1 (by decide) c1
  have c2 := three_at 2 (by decide) c2
  have c3 := three_at 3 (by decide) c3
  obtain ⟨A2, n2, p2, ta0, hl2⟩ := any_list k0
  obtain ⟨n1, ta1, hn1'⟩ := any_int k1
  obtain ⟨s2, ta2, hs2'⟩ := any_str k2
  obtain ⟨s3, ta3, hs3'⟩ := any_str k3
  obtain ⟨W2, hW2⟩ : ∃ W2, W2 = w.alloc (.cells obZ 27) := ⟨_, rfl⟩
  have hbw : Below w.heap.size w W2 := by rw [hW2]; exact (Below.refl _ _).alloc (Nat.le_refl _) _
  have hg2 : W2.heap[w.heap.size]? = some (.cells obZ 27 (0, 0)) := by rw [hW2]; exact alloc_lastV _ _
  have hs12 : w.heap.size < W2.heap.size := (Array.getElem?_eq_some_iff.1 hg2).1
  unfold obZ at hg2 hW2
  have HG2 := Lib.hid hg2
  have HBW := Lib.hid hbw
  have HS12 := Lib.hid hs12
  have HW2 := Lib.hid hW2
  have HL2 := Lib.hid hl2
  have HVAL := Lib.hid (And.intro hn1' (And.intro hs2' hs3'))
  obtain ⟨RP, hRP⟩ : ∃ RP : Ending → World → Prop, RP = ObPost (commitD a b x2 d) w := ⟨_, rfl⟩
  rw [← hRP]
  unfold commitD at hRP
  have HRP := Lib.hid hRP
  clear hA hl2 hbw hg2 hs12 hW2 hRP k0 k1 k2 k3 hb1 hb2 hb3 hn1' hs2' hs3'
  generalize hb1e : isL a = B1 at ta0 HL2
  generalize hb2e : decide (b.f0 = 1) = B2 at ta1
  generalize hb3e : decide (x2.f0 = 2) = B3 at ta2
  generalize hb4e : decide (d.f0 = 2) = B4 at ta3
  have HB := Lib.hid (And.intro hb1e (And.intro hb2e (And.intro hb3e hb4e)))
  clear hb1e hb2e hb3e hb4e
  have hnone : (B1 && (B2 && (B3 && B4))) = false → ∀ W, Below w.heap.size w W → W.heap[w.heap.size]? = some (.cells obZ 27 (0, 0)) → ∀ tmps : Array Value, tmps.getD 2 undef = .pointer (some ⟨w.heap.size, 0, none⟩) → tmps.getD 3 undef = .bool false →
      bodyPost Tryz.prog Tryz.f56 RP Exit.ret { tmps := tmps, defers := [] } W := fun h W hW hg tmps t2 t3 => by
    refine bodyPost_ret (results_ob ob_results2 _ _ w.heap.size _ _ _ _ _ _ _ _ _ t2 t3 hg) rfl ?_
    rw [HRP.out, if_neg (by
      rintro ⟨y1, y2, y3, y4⟩
      obtain ⟨q1, q2, q3, q4⟩ := HB.out
      rw [← q1, ← q2, ← q3, ← q4, decide_eq_true y2, decide_eq_true y3, decide_eq_true y4, y1] at h
      cases h)]
    exact ⟨none, 0, none, 0, none, 0, rfl, ObR_zero _ _, hW⟩
  have HNONE := Lib.hid hnone
  clear hnone
  obtain ⟨⟨z0, z1, z2, z3⟩, z4, z5, z6, z7⟩ := box8 HG2.out
  obtain ⟨⟨f0, f1, f2, f3⟩, f4, f5, f6, f7⟩ := frozen8 HG2.out
  rw [HW2.out] at z0 z1 z2 z3 z4 z5 z6 z7 f0 f1 f2 f3 f4 f5 f6 f7
  cases B1 with
  | false =>
    go_enter Tryz.func56, Tryz.ntmps56
    go_wp2_with fail
    rw [← HW2.out]
    exact HNONE.out (by first | rfl | simp) W2 HBW.out HG2.out _ rfl rfl
  | true =>
    cases B2 with
    | false =>
      go_enter Tryz.func56, Tryz.ntmps56
      go_wp2_with fail
      rw [← HW2.out]
      exact HNONE.out (by first | rfl | simp) W2 HBW.out HG2.out _ rfl rfl
    | true =>
      cases B3 with
      | false =>
        go_enter Tryz.func56, Tryz.ntmps56
        go_wp2_with fail
        rw [← HW2.out]
        exact HNONE.out (by first | rfl | simp) W2 HBW.out HG2.out _ rfl rfl
      | true =>
        cases B4 with
        | false =>
          go_enter Tryz.func56, Tryz.ntmps56
          go_wp2_with fail
          rw [← HW2.out]
          exact HNONE.out (by first | rfl | simp) W2 HBW.out HG2.out _ rfl rfl
        | true =>
          obtain ⟨hn2, hn2c, hC2⟩ := HL2.out rfl
          obtain ⟨l, hl⟩ : ∃ l, l = a.f3 := ⟨_, rfl⟩
          rw [← hl] at hn2 hC2 hal
          subst hn2
          obtain ⟨K, hK⟩ : ∃ K, K = strsD l := ⟨_, rfl⟩
          have hfin : ∀ e W, RP e W ↔ ObPost (K.map fun ps => ⟨2, ⟨#[]⟩, [], [], ps, n1, s2, s3⟩) w e W := fun e W => by
            obtain ⟨q1, q2, q3, q4⟩ := HB.out
            have y2 := of_decide_eq_true q2
            have y3 := of_decide_eq_true q3
            have y4 := of_decide_eq_true q4
            rw [HRP.out, if_pos ⟨q1, y2, y3, y4⟩, hK, hl, ← HVAL.out.1 y2, ← HVAL.out.2.1 y3, ← HVAL.out.2.2 y4]
          have HFIN := Lib.hid hfin
          have HC2 := Lib.hid (Kd.C_below hC2 HBW.out)
          have HKK := Lib.hid (show K = (strsD (l.drop 0)).map (([] : List ByteArray) ++ ·) by rw [hK, List.drop_zero]; simp)
          clear hfin hC2 hK hl HNONE
          go_enter Tryz.func56, Tryz.ntmps56
          go_wp2_with fail
          rw [← HW2.out]
          clear z0 z1 z2 z3 z4 z5 z6 z7 f0 f1 f2 f3 f4 f5 f6 f7
          obtain ⟨W3, hW3⟩ : ∃ W3, W3 = W2.alloc (.cells #[.int .i64 2, .string (⟨#[]⟩ : ByteArray), .slice none 0 0, .slice none 0 0, .slice none 0 0, .int .i64 n1, .string s2, .string s3] 27) := ⟨_, rfl⟩
          rw [← hW3]
          have hs2e : W2.heap.size = w.heap.size + 1 := by rw [HW2.out]; simp
          have hni : CommIn W2 (w.heap.size + 1) n1 s2 s3 (.slice none 0 0) [] W3 :=
            ⟨by rw [hW3]; exact (Below.refl _ _).alloc (Nat.le_refl _) _, by omega, by rw [hW3, ← hs2e]; exact alloc_lastV _ _, Kd.R_nil _ _ _ _ _⟩
          have HNI := Lib.hid hni
          have HS2E := Lib.hid hs2e
          clear hni hW3 c0 c1 c2 c3 hs2e
          go_loopw [66] (fun i wr => ∃ (j : Nat) (acc : List ByteArray) (v : Value), i = .int .i64 (j : Int) ∧ j ≤ l.length ∧ acc.length = j ∧ CommIn W2 (w.heap.size + 1) n1 s2 s3 v acc wr ∧ Hid (K = (strsD (l.drop j)).map (acc ++ ·))) (fun i _ => l.length - (intOf i).toNat)
          case atStart => exact ⟨0, [], _, rfl, Nat.zero_le _, rfl, HNI.out, HKK⟩
          case round =>
            obtain ⟨i, acc, v, rfl, hi, hac, hni, hr⟩ := hrel
            obtain ⟨Av, cv, rfl, hvc, hvC⟩ := Kd.R_reads hni.row
            have HNJ := Lib.hid hni
            have HAC := Lib.hid hac
            have HBR := Lib.hid (HBW.out.trans (hni.below.mono HBW.out.size))
            have HGR := Lib.hid ((hni.below.block _ HS12.out).trans HG2.out)
            by_cases hil : i < l.length
            · obtain ⟨x, hx⟩ : ∃ x, l[i]? = some x := ⟨_, List.getElem?_eq_getElem hil⟩
              obtain ⟨ad', u, rfl, c0, hu, hbk⟩ := any_at (Kd.C_below HC2.out hni.below) hx
              have hr2 := hr.out
              rw [strsD_step hx] at hr2
              have HR2 := Lib.hid hr2
              obtain ⟨sx, tax, hsx⟩ := any_str hu
              clear hr2 hr hx hu hni hac hvC
              by_cases hkd : x.f0 = 2
              · have hr3 := HR2.out
                rw [if_pos hkd] at hr3
                rw [decide_eq_true hkd] at tax
                have hsx' := hsx hkd
                obtain ⟨W6, hW6⟩ : ∃ W6, W6 = wr.alloc (.cells #[.string sx] 9) := ⟨_, rfl⟩
                have hn6 : Below wr.heap.size wr W6 := by rw [hW6]; exact (Below.refl _ _).alloc (Nat.le_refl _) _
                have hg6 : W6.heap[wr.heap.size]? = some (.cells #[.string sx] 9 (0, 0)) := by rw [hW6]; exact alloc_lastV _ _
                have hni6 := HNJ.out.later hn6
                have hgl := (Array.getElem?_eq_some_iff.1 hni6.blk).1
                obtain ⟨v8, W8, hr8, hg8, hR8⟩ := append_str (b0 := w.heap.size + 1 + 1) hni6.row (by omega) hg6 (by have := HAC.out; omega) 25
                obtain ⟨A8, c8, rfl, _, _⟩ := Kd.R_reads hR8
                have hst := hni6.step hg8 hR8
                obtain ⟨_, inner, hown, _⟩ := hni6.row
                have hblk8 := (hg8.block (w.heap.size + 1) hgl (fun e => by have := own_base hown _ e.symm; omega)).trans hni6.blk
                have y4 : W8.cell? ⟨w.heap.size + 1, 4, none⟩ = some (.slice Av acc.length cv) := (box8 hblk8).2.1
                have x4 : W8.frozen? ⟨w.heap.size + 1, 4, none⟩ = false := Lib.frozen_of_heap hblk8 4
                have w4 : wr.cell? ⟨w.heap.size + 1, 4, none⟩ = some (.slice Av acc.length cv) := (box8 HNJ.out.blk).2.1
                have HST := Lib.hid hst
                rw [hW6] at hr8
                have HAPP := Lib.hid hr8
                have HR9 := Lib.hid (show K = (strsD (l.drop (i + 1))).map ((acc ++ [sx]) ++ ·) by
                  rw [hr3, Option.map_map, hsx']; congr 1; funext z; simp)
                clear hst hR8 hg8 hni6 hg6 hn6 hW6 hr8 hown hblk8 hgl hr3 hsx hsx' hkd HR2
                go_wp2_with (refine wpList_value rfl (exec_append _ _ 25 rfl HAPP.out) ?_)
                go_roundw
                case rel => exact ⟨i + 1, acc ++ [sx], _, by go_num, hil, by rw [List.length_append]; have := HAC.out; simp; omega, by have := HST.out; rwa [List.length_append, List.length_singleton] at this, HR9⟩
                case measure => simp [intOf]; omega
              · have hr3 := HR2.out
                rw [if_neg hkd] at hr3
                rw [decide_eq_false hkd] at tax
                have HK := Lib.hid (show K = none from hr3)
                obtain ⟨⟨z0, z1, z2, z3⟩, z4, z5, z6, z7⟩ := box8 HGR.out
                obtain ⟨⟨f0, f1, f2, f3⟩, f4, f5, f6, f7⟩ := frozen8 HGR.out
                clear hr3 hkd hsx HR2
                go_wp2_with fail
                refine bodyPost_ret (results_ob ob_results2 _ _ w.heap.size _ _ _ _ _ _ _ _ _ rfl rfl (put8_same HGR.out (.int .i64 0) (.string (⟨#[]⟩ : ByteArray)) (.slice none 0 0) (.slice none 0 0) (.slice none 0 0) (.int .i64 0) (.string (⟨#[]⟩ : ByteArray)) (.string (⟨#[]⟩ : ByteArray)))) rfl ?_
                rw [HFIN.out, HK.out]
                exact ⟨none, 0, none, 0, none, 0, rfl, ObR_zero _ _, put8_below HBR.out (Nat.le_refl _) _ _ _ _ _ _ _ _⟩
            · have hie : i = l.length := by omega
              have hr2 := hr.out
              rw [hie, List.drop_length, strsD, Option.map_some, List.append_nil] at hr2
              have HK := Lib.hid hr2
              obtain ⟨⟨z0, z1, z2, z3⟩, z4, z5, z6, z7⟩ := box8 HGR.out
              obtain ⟨⟨f0, f1, f2, f3⟩, f4, f5, f6, f7⟩ := frozen8 HGR.out
              obtain ⟨⟨y0, y1, y2, y3⟩, y4, y5, y6, y7⟩ := box8 hni.blk
              have hp := put8_below (B := w.heap.size) HBR.out (Nat.le_refl _) (.int .i64 2) (.string (⟨#[]⟩ : ByteArray)) (.slice none 0 0) (.slice none 0 0) (.slice Av acc.length cv) (.int .i64 n1) (.string s2) (.string s3)
              have hsm := put8_same HGR.out (.int .i64 2) (.string (⟨#[]⟩ : ByteArray)) (.slice none 0 0) (.slice none 0 0) (.slice Av acc.length cv) (.int .i64 n1) (.string s2) (.string s3)
              have hob : ObR (put8 wr w.heap.size (.int .i64 2) (.string (⟨#[]⟩ : ByteArray)) (.slice none 0 0) (.slice none 0 0) (.slice Av acc.length cv) (.int .i64 n1) (.string s2) (.string s3)) w.heap.size ⟨2, ⟨#[]⟩, [], [], acc, n1, s2, s3⟩ none 0 none 0 Av cv := by
                have h1 : ObR wr (w.heap.size + 1) ⟨2, ⟨#[]⟩, [], [], acc, n1, s2, s3⟩ none 0 none 0 Av cv := ⟨Kd.R_nil _ _ _ _ _, Kd.R_nil _ _ _ _ _, Kd.R_lower hni.row (by omega)⟩
                exact h1.move (fun k hk _ => put8_far (by omega) _ _ _ _ _ _ _ _) (by omega)
              have HP := Lib.hid hp
              have HSM := Lib.hid hsm
              have HOB := Lib.hid hob
              clear hie hr2 hr hni hvC hac hp hsm hob
              go_wp2_with fail
              refine bodyPost_ret (results_ob ob_results2 _ _ w.heap.size _ _ _ _ _ _ _ _ _ rfl rfl HSM.out) rfl ?_
              rw [HFIN.out, HK.out]
              exact ⟨none, 0, none, 0, Av, cv, rfl, HOB.out, HP.out⟩
end Go.Proofs.YtgjlchcfdbmmlaaGreatDoor.PObjectPuts
namespace Go.Proofs.YtgjlchcfdbmmlaaGreatDoor.PObjectPuts
open Go.RowKit Go.Proofs.YtgjlchcfdbmmlaaGreatDoor.Ord Go.Proofs.YtgjlchcfdbmmlaaGreatDoor.Obj Go.Proofs.YtgjlchcfdbmmlaaGreatDoorW.PrintWords Go.Proofs.YtgjlchcfdbmmlaaGreatDoorW.PrintLast Go.Proofs.YtgjlchcfdbmmlaaGreatDoorW.PrintMore
attribute [local irreducible] OpGives
attribute [local go_sem] ta_ii ta_is ta_il ta_si ta_ss ta_sl ta_li ta_ls ta_ll

def objL : List S38 → Option Ob
  | [k, a, b, d] => if k.f0 = 1 ∧ k.f1 = 1 then nodeD a b d else none
  | [k, a, b, c, d] => if k.f0 = 1 ∧ k.f1 = 2 then commitD a b c d else none
  | _ => none
def objD (x : S38) : Option Ob := if isL x then objL x.f3 else none
theorem ob_results3 : (Tryz.f29).results = #[.cell 2 27, .tmp 3] := Tryz.results29
theorem C_tail {w : World} {ad : Addr} {x : S38} {l : List S38} {n : Nat} (h : kA.C w (some ad) (n + 1) (x :: l)) : kA.C w (some (ad.add 1)) n l := by
  obtain ⟨h1, h2, h3⟩ := h
  refine ⟨by simpa using h1, by omega, fun hn => ⟨_, rfl, fun j p hj => ?_⟩⟩
  obtain ⟨ad', e, hc⟩ := h3 (by omega)
  cases e
  obtain ⟨c, hc1, hR, hcell⟩ := hc (j + 1) p (by simpa using hj)
  refine ⟨c, hc1, hR, fun i u hu => ?_⟩
  have := hcell i u hu
  rw [Go.Deep.add_add, show 1 + (j * kA.sz + i) = (j + 1) * kA.sz + i by rw [show kA.sz = 1 from rfl]; omega]
  exact this
set_option maxRecDepth 100000 in
theorem obj_atom (u : Value) (w : World) (hu : (∃ v, u = .iface 3 v) ∨ ∃ v, u = .iface 9 v) : Calls Tryz.prog 29 #[u] w (ObPost none w) := by
  rcases hu with ⟨v, rfl⟩ | ⟨v, rfl⟩
  · go_enter Tryz.func29, Tryz.ntmps29
    go_wp2
    refine bodyPost_ret (results_ob ob_results3 _ _ w.heap.size _ _ _ _ _ _ _ _ _ rfl rfl (alloc_lastV _ _)) rfl ?_
    exact ⟨none, 0, none, 0, none, 0, rfl, ObR_zero _ _, (Below.refl _ _).alloc (Nat.le_refl _) _⟩
  · go_enter Tryz.func29, Tryz.ntmps29
    go_wp2
    refine bodyPost_ret (results_ob ob_results3 _ _ w.heap.size _ _ _ _ _ _ _ _ _ rfl rfl (alloc_lastV _ _)) rfl ?_
    exact ⟨none, 0, none, 0, none, 0, rfl, ObR_zero _ _, (Below.refl _ _).alloc (Nat.le_refl _) _⟩
set_option maxHeartbeats 8000000 in
set_option maxRecDepth 100000 in
theorem obj_none (A : Option Addr) (n c : Nat) (kv : Int) (bk : Bool) (w : World) (hv : 0 < n → ∃ ad u, A = some ad ∧ w.cell? ad = some u ∧ ad.block < w.heap.size ∧ ∀ W, (Instr.typeAssert u 70 3 true).run Tryz.prog W = .ok (.tuple #[.int .i64 kv, .bool bk]) W)
    (h1 : ¬ (bk = true ∧ kv = 1 ∧ n = 4)) (h2 : ¬ (bk = true ∧ kv = 2 ∧ n = 5)) :
    Calls Tryz.prog 29 #[.iface 103 (.slice A n c)] w (ObPost none w) := by
  rcases Nat.eq_zero_or_pos n with h0 | h0
  · subst h0
    go_enter Tryz.func29, Tryz.ntmps29
    go_wp2
    refine bodyPost_ret (results_ob ob_results3 _ _ w.heap.size _ _ _ _ _ _ _ _ _ rfl rfl (alloc_lastV _ _)) rfl ?_
    exact ⟨none, 0, none, 0, none, 0, rfl, ObR_zero _ _, (Below.refl _ _).alloc (Nat.le_refl _) _⟩
  · obtain ⟨ad, u, rfl, c0, hbk, ta⟩ := hv h0
    have hn0 : ((n : Int) == 0) = false := by rw [beq_eq_false_iff_ne]; omega
    have hnp : (0 : Int) < (n : Int) := by omega
    cases bk with
    | false =>
      clear h1 h2
      go_enter Tryz.func29, Tryz.ntmps29
      go_wp2
      refine bodyPost_ret (results_ob ob_results3 _ _ w.heap.size _ _ _ _ _ _ _ _ _ rfl rfl (alloc_lastV _ _)) rfl ?_
      exact ⟨none, 0, none, 0, none, 0, rfl, ObR_zero _ _, (Below.refl _ _).alloc (Nat.le_refl _) _⟩
    | true =>
      by_cases k1 : kv = 1
      · subst k1
        have h4 : ((n : Int) == 4) = false := by rw [beq_eq_false_iff_ne]; intro e; exact h1 ⟨rfl, rfl, by omega⟩
        clear h1 h2
        go_enter Tryz.func29, Tryz.ntmps29
        go_wp2
        refine bodyPost_ret (results_ob ob_results3 _ _ w.heap.size _ _ _ _ _ _ _ _ _ rfl rfl (alloc_lastV _ _)) rfl ?_
        exact ⟨none, 0, none, 0, none, 0, rfl, ObR_zero _ _, (Below.refl _ _).alloc (Nat.le_refl _) _⟩
      · have k1' : (kv == 1) = false := by simpa using k1
        by_cases k2 : kv = 2
        · subst k2
          have h4 : ((n : Int) == 5) = false := by rw [beq_eq_false_iff_ne]; intro e; exact h2 ⟨rfl, rfl, by omega⟩
          clear h1 h2
          go_enter Tryz.func29, Tryz.ntmps29
          go_wp2
          refine bodyPost_ret (results_ob ob_results3 _ _ w.heap.size _ _ _ _ _ _ _ _ _ rfl rfl (alloc_lastV _ _)) rfl ?_
          exact ⟨none, 0, none, 0, none, 0, rfl, ObR_zero _ _, (Below.refl _ _).alloc (Nat.le_refl _) _⟩
        · have k2' : (kv == 2) = false := by simpa using k2
          clear h1 h2 k1 k2
          go_enter Tryz.func29, Tryz.ntmps29
          go_wp2
          refine bodyPost_ret (results_ob ob_results3 _ _ w.heap.size _ _ _ _ _ _ _ _ _ rfl rfl (alloc_lastV _ _)) rfl ?_
          exact ⟨none, 0, none, 0, none, 0, rfl, ObR_zero _ _, (Below.refl _ _).alloc (Nat.le_refl _) _⟩
theorem parts_len (x : S38) : x.f3.length ≤ parts x := by
  rw [parts_eq]; have := partsL_len x.f3; omega
set_option maxHeartbeats 8000000 in
set_option maxRecDepth 100000 in
theorem obj_node (a b d : S38) (ad : Addr) (c : Nat) (u0 : Value) (w : World) (c0 : w.cell? ad = some u0) (hb0 : ad.block < w.heap.size)
    (ta : ∀ W, (Instr.typeAssert u0 70 3 true).run Tryz.prog W = .ok (.tuple #[.int .i64 1, .bool true]) W) (hC : kA.C w (some (ad.add 1)) 3 [a, b, d]) (hc : 4 ≤ c) (hbl : b.f3.length ≤ 1000000) (hdl : d.f3.length ≤ 1000000) (hT : Lib.Utf8Tabs 0 1 w) :
    Calls Tryz.prog 29 #[.iface 103 (.slice (some ad) 4 c)] w (ObPost (nodeD a b d) w) := by
  obtain ⟨W1, hW1⟩ : ∃ W1, W1 = w.alloc (.cells obZ 27) := ⟨_, rfl⟩
  have hn1 : Below w.heap.size w W1 := by rw [hW1]; exact (Below.refl _ _).alloc (Nat.le_refl _) _
  have hg1 : W1.heap[w.heap.size]? = some (.cells obZ 27 (0, 0)) := by rw [hW1]; exact alloc_lastV _ _
  have hs1 : W1.heap.size = w.heap.size + 1 := by rw [hW1]; simp
  have HCALL := Lib.hid (nodeOf_calls a b d (some (ad.add 1)) (c - 1) W1 (Kd.C_below hC hn1) hbl hdl (Utf8Tabs_below hT hn1))
  generalize (nodeD a b d) = r at HCALL ⊢
  have HN1 := Lib.hid hn1
  have HG1 := Lib.hid hg1
  have HS1 := Lib.hid hs1
  unfold obZ at hW1
  have HW1 := Lib.hid hW1
  have hc1 : (1 : Int) ≤ (c : Int) := by omega
  clear hn1 hg1 hs1 hW1 hC hT
  go_enter Tryz.func29, Tryz.ntmps29
  go_wp2_with fail
  rw [← HW1.out]
  refine HCALL.out.mono ?_
  rintro e W2 ⟨Ar, cr, Ak, ck, Ap, cp, rfl, hO, hb2⟩
  have hg2 := (hb2.block _ (Array.getElem?_eq_some_iff.1 HG1.out).1).trans HG1.out
  have hbw : Below w.heap.size w W2 := HN1.out.trans (hb2.mono HN1.out.size)
  unfold obZ at hg2
  obtain ⟨⟨z0, z1, z2, z3⟩, z4, z5, z6, z7⟩ := box8 hg2
  obtain ⟨⟨f0, f1, f2, f3⟩, f4, f5, f6, f7⟩ := frozen8 hg2
  have HG2 := Lib.hid hg2
  have HBW := Lib.hid hbw
  have HO := Lib.hid hO
  clear hg2 hbw hO hb2
  generalize hoo : r.getD zOb = o at HO ⊢
  obtain ⟨o0, o1, o2, o3, o4, o5, o6, o7⟩ := o
  unfold obV
  simp only at HO ⊢
  have HOO := Lib.hid hoo
  clear hoo
  go_wp2_with fail
  refine bodyPost_ret (results_ob ob_results3 _ _ w.heap.size _ _ _ _ _ _ _ _ _ rfl rfl (put8_same HG2.out (.int .i64 o0) (.string o1) (.slice Ar o2.length cr) (.slice Ak o3.length ck) (.slice Ap o4.length cp) (.int .i64 o5) (.string o6) (.string o7))) rfl ?_
  refine ⟨Ar, cr, Ak, ck, Ap, cp, by rw [HOO.out]; rfl, ?_, put8_below HBW.out (Nat.le_refl _) _ _ _ _ _ _ _ _⟩
  rw [HOO.out]
  exact HO.out.move (fun k hk _ => put8_far (by have := HS1.out; omega) _ _ _ _ _ _ _ _) (by have := HS1.out; omega)
set_option maxHeartbeats 8000000 in
set_option maxRecDepth 100000 in
theorem obj_comm (a b d f : S38) (ad : Addr) (c : Nat) (u0 : Value) (w : World) (c0 : w.cell? ad = some u0) (hb0 : ad.block < w.heap.size)
    (ta : ∀ W, (Instr.typeAssert u0 70 3 true).run Tryz.prog W = .ok (.tuple #[.int .i64 2, .bool true]) W) (hC : kA.C w (some (ad.add 1)) 4 [a, b, d, f]) (hc : 5 ≤ c) (hal : a.f3.length ≤ 1000000) :
    Calls Tryz.prog 29 #[.iface 103 (.slice (some ad) 5 c)] w (ObPost (commitD a b d f) w) := by
  obtain ⟨W1, hW1⟩ : ∃ W1, W1 = w.alloc (.cells obZ 27) := ⟨_, rfl⟩
  have hn1 : Below w.heap.size w W1 := by rw [hW1]; exact (Below.refl _ _).alloc (Nat.le_refl _) _
  have hg1 : W1.heap[w.heap.size]? = some (.cells obZ 27 (0, 0)) := by rw [hW1]; exact alloc_lastV _ _
  have hs1 : W1.heap.size = w.heap.size + 1 := by rw [hW1]; simp
  have HCALL := Lib.hid (commitOf_calls a b d f (some (ad.add 1)) (c - 1) W1 (Kd.C_below hC hn1) hal)
  generalize (commitD a b d f) = r at HCALL ⊢
  have HN1 := Lib.hid hn1
  have HG1 := Lib.hid hg1
  have HS1 := Lib.hid hs1
  unfold obZ at hW1
  have HW1 := Lib.hid hW1
  have hc1 : (1 : Int) ≤ (c : Int) := by omega
  clear hn1 hg1 hs1 hW1 hC 
  go_enter Tryz.func29, Tryz.ntmps29
  go_wp2_with fail
  rw [← HW1.out]
  refine HCALL.out.mono ?_
  rintro e W2 ⟨Ar, cr, Ak, ck, Ap, cp, rfl, hO, hb2⟩
  have hg2 := (hb2.block _ (Array.getElem?_eq_some_iff.1 HG1.out).1).trans HG1.out
  have hbw : Below w.heap.size w W2 := HN1.out.trans (hb2.mono HN1.out.size)
  unfold obZ at hg2
  obtain ⟨⟨z0, z1, z2, z3⟩, z4, z5, z6, z7⟩ := box8 hg2
  obtain ⟨⟨f0, f1, f2, f3⟩, f4, f5, f6, f7⟩ := frozen8 hg2
  have HG2 := Lib.hid hg2
  have HBW := Lib.hid hbw
  have HO := Lib.hid hO
  clear hg2 hbw hO hb2
  generalize hoo : r.getD zOb = o at HO ⊢
  obtain ⟨o0, o1, o2, o3, o4, o5, o6, o7⟩ := o
  unfold obV
  simp only at HO ⊢
  have HOO := Lib.hid hoo
  clear hoo
  go_wp2_with fail
  refine bodyPost_ret (results_ob ob_results3 _ _ w.heap.size _ _ _ _ _ _ _ _ _ rfl rfl (put8_same HG2.out (.int .i64 o0) (.string o1) (.slice Ar o2.length cr) (.slice Ak o3.length ck) (.slice Ap o4.length cp) (.int .i64 o5) (.string o6) (.string o7))) rfl ?_
  refine ⟨Ar, cr, Ak, ck, Ap, cp, by rw [HOO.out]; rfl, ?_, put8_below HBW.out (Nat.le_refl _) _ _ _ _ _ _ _ _⟩
  rw [HOO.out]
  exact HO.out.move (fun k hk _ => put8_far (by have := HS1.out; omega) _ _ _ _ _ _ _ _) (by have := HS1.out; omega)
theorem objectOf_calls (x : S38) (u : Value) (w : World) (h : AnyAt w x u) (hp : parts x ≤ 1000000) (hT : Lib.Utf8Tabs 0 1 w) : Calls Tryz.prog 29 #[u] w (ObPost (objD x) w) := by
  rcases any_cases h with ⟨h1, rfl⟩ | ⟨h1, rfl⟩ | ⟨h1, h2, A, c, rfl, hlc, hC⟩
  · have : objD x = none := by unfold objD isL; rw [decide_eq_true h1]; rfl
    rw [this]; exact obj_atom _ w (.inl ⟨_, rfl⟩)
  · have : objD x = none := by unfold objD isL; rw [decide_eq_true h1]; simp
    rw [this]; exact obj_atom _ w (.inr ⟨_, rfl⟩)
  · have hd : objD x = objL x.f3 := by unfold objD; rw [if_pos (isL_of h1 h2)]
    rw [hd]
    obtain ⟨xk, xn, xs, l⟩ := x
    rw [parts] at hp
    simp only at hlc hC ⊢
    clear hd h h1 h2
    cases l with
    | nil => exact obj_none A 0 c 0 false w (fun h => by omega) (by simp) (by simp)
    | cons k rest =>
      obtain ⟨ad, u0, rfl, c0, k0, hb0⟩ := any_at (l := k :: rest) hC (i := 0) (x := k) rfl
      rw [show ad.add 0 = ad from by simp [Addr.add]] at c0 hb0
      obtain ⟨kv, ta, hkv⟩ := any_int k0
      by_cases h4 : k.f0 = 1 ∧ kv = 1 ∧ rest.length = 3
      · obtain ⟨q1, q2, q3⟩ := h4
        obtain ⟨a, b, d, rfl⟩ : ∃ a b d, rest = [a, b, d] := by
          match rest, q3 with
          | [a, b, d], _ => exact ⟨a, b, d, rfl⟩
        have : objL [k, a, b, d] = nodeD a b d := by rw [objL, if_pos ⟨q1, by rw [← hkv q1]; exact q2⟩]
        rw [this]
        subst q2
        rw [decide_eq_true q1] at ta
        rw [partsL, partsL, partsL, partsL, partsL] at hp
        exact obj_node a b d ad c u0 w c0 hb0 ta (C_tail hC) hlc (by have := parts_len b; omega) (by have := parts_len d; omega) hT
      · by_cases h5 : k.f0 = 1 ∧ kv = 2 ∧ rest.length = 4
        · obtain ⟨q1, q2, q3⟩ := h5
          obtain ⟨a, b, d, f, rfl⟩ : ∃ a b d f, rest = [a, b, d, f] := by
            match rest, q3 with
            | [a, b, d, f], _ => exact ⟨a, b, d, f, rfl⟩
          have : objL [k, a, b, d, f] = commitD a b d f := by rw [objL, if_pos ⟨q1, by rw [← hkv q1]; exact q2⟩]
          rw [this]
          subst q2
          rw [decide_eq_true q1] at ta
          rw [partsL, partsL] at hp
          exact obj_comm a b d f ad c u0 w c0 hb0 ta (C_tail hC) hlc (by have := parts_len a; omega)
        · have : objL (k :: rest) = none := by
            match rest with
            | [] => rfl
            | [_] => rfl
            | [_, _] => rfl
            | [a, b, d] => rw [objL, if_neg]; rintro ⟨y1, y2⟩; exact h4 ⟨y1, by rw [hkv y1]; exact y2, rfl⟩
            | [a, b, d, f] => rw [objL, if_neg]; rintro ⟨y1, y2⟩; exact h5 ⟨y1, by rw [hkv y1]; exact y2, rfl⟩
            | _ :: _ :: _ :: _ :: _ :: _ => rfl
          rw [this]
          exact obj_none (some ad) (rest.length + 1) c kv (decide (k.f0 = 1)) w (fun _ => ⟨ad, u0, rfl, c0, hb0, ta⟩)
            (by rintro ⟨y1, y2, y3⟩; exact h4 ⟨of_decide_eq_true y1, y2, by omega⟩) (by rintro ⟨y1, y2, y3⟩; exact h5 ⟨of_decide_eq_true y1, y2, by omega⟩)
end Go.Proofs.YtgjlchcfdbmmlaaGreatDoor.PObjectPuts
namespace Go.Proofs.YtgjlchcfdbmmlaaGreatDoor.PObjectPuts
open Go.RowKit Go.Proofs.YtgjlchcfdbmmlaaGreatDoorW.PrintWords Go.Proofs.YtgjlchcfdbmmlaaGreatDoorW.PrintLast Go.Proofs.YtgjlchcfdbmmlaaGreatDoorW.PrintMore

theorem byteAt_eq {s : ByteArray} {p : Nat} (h : p < s.data.toList.length) : byteAt s p = (s.data.toList[p]).toNat := by
  unfold byteAt; rw [List.getD_eq_getElem?_getD, List.getElem?_eq_getElem h]; rfl
theorem ofNat_byteAt {s : ByteArray} {p : Nat} (h : p < s.data.toList.length) : UInt8.ofNat (byteAt s p) = s.data.toList[p] := by
  rw [byteAt_eq h]; simp
/-- n bytes from p on. -/
def cut (s : ByteArray) (p n : Nat) : List UInt8 := (s.data.toList.drop p).take n
theorem cut_zero (s : ByteArray) (p : Nat) : cut s p 0 = [] := by simp [cut]
theorem cut_snoc {s : ByteArray} {p n : Nat} (h : p + n < s.data.toList.length) : cut s p (n + 1) = cut s p n ++ [UInt8.ofNat (byteAt s (p + n))] := by
  unfold cut
  rw [List.take_succ_eq_append_getElem (by rw [List.length_drop]; omega), ofNat_byteAt h]
  simp
theorem cut_cons {s : ByteArray} {p n : Nat} (h : p < s.data.toList.length) : cut s p (n + 1) = UInt8.ofNat (byteAt s p) :: cut s (p + 1) n := by
  unfold cut
  rw [List.drop_eq_getElem_cons h, List.take_succ_cons, ofNat_byteAt h]
theorem cut_append (s : ByteArray) (p n m : Nat) : cut s p (n + m) = cut s p n ++ cut s (p + n) m := by
  unfold cut
  rw [List.take_add, List.drop_drop]
theorem cut_len {s : ByteArray} {p n : Nat} (h : p + n ≤ s.data.toList.length) : (cut s p n).length = n := by
  unfold cut; rw [List.length_take, List.length_drop]; omega
theorem numAt_mono (s : ByteArray) (p : Nat) {m n : Nat} (h : m ≤ n) : numAt s p m ≤ numAt s p n := by
  induction n with
  | zero => obtain rfl : m = 0 := by omega
            exact Nat.le_refl _
  | succ n ih =>
    rcases Nat.lt_or_ge n m with h' | h'
    · obtain rfl : m = n + 1 := by omega
      exact Nat.le_refl _
    · rw [numAt]; have := ih h'; omega
theorem numAt_pos {s : ByteArray} {p n : Nat} (hn : 0 < n) (h : byteAt s p ≠ 0) : 0 < numAt s p n := by
  have := numAt_mono s p (m := 1) (n := n) hn
  have e : numAt s p 1 = byteAt s p := by simp [numAt]
  omega
theorem bes_num {s : ByteArray} {p : Nat} : ∀ n, p + n ≤ s.data.toList.length → (0 < n → byteAt s p ≠ 0) → bes (numAt s p n) = cut s p n
  | 0, _, _ => by rw [cut_zero, numAt, bes_zero]
  | n + 1, hl, h0 => by
    have hb := byteAt_lt s (p + n)
    have hp : 0 < numAt s p (n + 1) := numAt_pos (by omega) (h0 (by omega))
    rw [bes_pos hp, cut_snoc (by omega), ← bes_num n (by omega) (fun _ => h0 (by omega)), numAt]
    rw [show (numAt s p n * 256 + byteAt s (p + n)) / 256 = numAt s p n by omega, show (numAt s p n * 256 + byteAt s (p + n)) % 256 = byteAt s (p + n) by omega]
def rowR : DR (List S38) → DR S38
  | .ok l q => .ok ⟨3, 0, ⟨#[]⟩, l⟩ q
  | .bad p e => .bad p e
theorem cellW_eq (s : ByteArray) (deep : Bool) (g : Nat → DR S38) (p : Nat) : cellW s deep g p =
  if s.size < p + 1 then .bad s.size 3
  else if byteAt s p / 16 < 1 ∨ 4 < byteAt s p / 16 then .bad p 4
    else if widthOf (byteAt s p / 16) < byteAt s p % 16 then .bad p 4
    else if deep = false then .bad p 5
    else if s.size < p + 1 + byteAt s p % 16 then .bad s.size 3
    else if 0 < byteAt s p % 16 ∧ byteAt s (p + 1) = 0 then .bad p 4
    else if mostOf (byteAt s p / 16) < numAt s (p + 1) (byteAt s p % 16) then .bad p 4
      else if byteAt s p / 16 = 1 then .ok ⟨1, (numAt s (p + 1) (byteAt s p % 16) : Int), ⟨#[]⟩, []⟩ (p + 1 + byteAt s p % 16)
      else if byteAt s p / 16 = 2 then .ok ⟨1, -1 - (numAt s (p + 1) (byteAt s p % 16) : Int), ⟨#[]⟩, []⟩ (p + 1 + byteAt s p % 16)
      else if byteAt s p / 16 = 3 then (if s.size < p + 1 + byteAt s p % 16 + numAt s (p + 1) (byteAt s p % 16) then .bad s.size 3 else .ok ⟨2, 0, s.extract (p + 1 + byteAt s p % 16) (p + 1 + byteAt s p % 16 + numAt s (p + 1) (byteAt s p % 16)), []⟩ (p + 1 + byteAt s p % 16 + numAt s (p + 1) (byteAt s p % 16)))
      else rowR (manyW g (numAt s (p + 1) (byteAt s p % 16)) (p + 1 + byteAt s p % 16) []) := rfl
/-- What it takes for a cell to be read. -/
theorem cellW_ok {s : ByteArray} {deep : Bool} {g : Nat → DR S38} {p : Nat} {x : S38} {q : Nat} (h : cellW s deep g p = .ok x q) :
    p < s.size ∧ 1 ≤ byteAt s p / 16 ∧ byteAt s p / 16 ≤ 4 ∧ byteAt s p % 16 ≤ widthOf (byteAt s p / 16) ∧ deep = true ∧ p + 1 + byteAt s p % 16 ≤ s.size ∧ (0 < byteAt s p % 16 → byteAt s (p + 1) ≠ 0) ∧ numAt s (p + 1) (byteAt s p % 16) ≤ mostOf (byteAt s p / 16) ∧
    ((byteAt s p / 16 = 1 ∧ x = ⟨1, (numAt s (p + 1) (byteAt s p % 16) : Int), ⟨#[]⟩, []⟩ ∧ q = p + 1 + byteAt s p % 16) ∨
     (byteAt s p / 16 = 2 ∧ x = ⟨1, -1 - (numAt s (p + 1) (byteAt s p % 16) : Int), ⟨#[]⟩, []⟩ ∧ q = p + 1 + byteAt s p % 16) ∨
     (byteAt s p / 16 = 3 ∧ p + 1 + byteAt s p % 16 + numAt s (p + 1) (byteAt s p % 16) ≤ s.size ∧ x = ⟨2, 0, s.extract (p + 1 + byteAt s p % 16) (p + 1 + byteAt s p % 16 + numAt s (p + 1) (byteAt s p % 16)), []⟩ ∧ q = p + 1 + byteAt s p % 16 + numAt s (p + 1) (byteAt s p % 16)) ∨
     (byteAt s p / 16 = 4 ∧ ∃ l, manyW g (numAt s (p + 1) (byteAt s p % 16)) (p + 1 + byteAt s p % 16) [] = .ok l q ∧ x = ⟨3, 0, ⟨#[]⟩, l⟩)) := by
  rw [cellW_eq] at h
  by_cases h1 : s.size < p + 1
  · rw [if_pos h1] at h; cases h
  rw [if_neg h1] at h
  by_cases h2 : byteAt s p / 16 < 1 ∨ 4 < byteAt s p / 16
  · rw [if_pos h2] at h; cases h
  rw [if_neg h2] at h
  by_cases h3 : widthOf (byteAt s p / 16) < byteAt s p % 16
  · rw [if_pos h3] at h; cases h
  rw [if_neg h3] at h
  by_cases h4 : deep = false
  · rw [if_pos h4] at h; cases h
  rw [if_neg h4] at h
  by_cases h5 : s.size < p + 1 + byteAt s p % 16
  · rw [if_pos h5] at h; cases h
  rw [if_neg h5] at h
  by_cases h6 : 0 < byteAt s p % 16 ∧ byteAt s (p + 1) = 0
  · rw [if_pos h6] at h; cases h
  rw [if_neg h6] at h
  by_cases h7 : mostOf (byteAt s p / 16) < numAt s (p + 1) (byteAt s p % 16)
  · rw [if_pos h7] at h; cases h
  rw [if_neg h7] at h
  refine ⟨by omega, by omega, by omega, by omega, by simpa using h4, by omega, fun h0 he => h6 ⟨h0, he⟩, by omega, ?_⟩
  by_cases h8 : byteAt s p / 16 = 1
  · rw [if_pos h8] at h
    injection h with hx hq
    exact .inl ⟨h8, hx.symm, hq.symm⟩
  rw [if_neg h8] at h
  by_cases h9 : byteAt s p / 16 = 2
  · rw [if_pos h9] at h
    injection h with hx hq
    exact .inr (.inl ⟨h9, hx.symm, hq.symm⟩)
  rw [if_neg h9] at h
  by_cases h10 : byteAt s p / 16 = 3
  · rw [if_pos h10] at h
    by_cases h11 : s.size < p + 1 + byteAt s p % 16 + numAt s (p + 1) (byteAt s p % 16)
    · rw [if_pos h11] at h; cases h
    · rw [if_neg h11] at h
      injection h with hx hq
      exact .inr (.inr (.inl ⟨h10, by omega, hx.symm, hq.symm⟩))
  rw [if_neg h10] at h
  cases hm : manyW g (numAt s (p + 1) (byteAt s p % 16)) (p + 1 + byteAt s p % 16) [] with
  | ok l q' =>
    rw [hm, rowR] at h
    injection h with hx hq
    subst hq
    exact .inr (.inr (.inr ⟨by omega, l, rfl, hx.symm⟩))
  | bad p' e => rw [hm, rowR] at h; cases h
theorem manyW_bad {f : Nat → DR S38} (hf : ∀ q p e, f q = .bad p e → e = 3 ∨ e = 4 ∨ e = 5) : ∀ (k q : Nat) (acc : List S38) (p e : Nat), manyW f k q acc = .bad p e → e = 3 ∨ e = 4 ∨ e = 5
  | 0, q, acc, p, e, h => by rw [manyW] at h; cases h
  | k + 1, q, acc, p, e, h => by
    rw [manyW] at h
    cases hq : f q with
    | ok x q' => rw [hq] at h; exact manyW_bad hf k q' _ p e h
    | bad p' e' => rw [hq] at h; injection h with h1 h2; subst h2; exact hf _ _ _ hq
theorem cellW_bad {s : ByteArray} {deep : Bool} {g : Nat → DR S38} (hg : deep = true → ∀ q p e, g q = .bad p e → e = 3 ∨ e = 4 ∨ e = 5) {p : Nat} {p' e : Nat} (h : cellW s deep g p = .bad p' e) : e = 3 ∨ e = 4 ∨ e = 5 := by
  rw [cellW_eq] at h
  by_cases h1 : s.size < p + 1
  · rw [if_pos h1] at h; injection h with h1 h2; omega
  rw [if_neg h1] at h
  by_cases h2 : byteAt s p / 16 < 1 ∨ 4 < byteAt s p / 16
  · rw [if_pos h2] at h; injection h with h1 h2; omega
  rw [if_neg h2] at h
  by_cases h3 : widthOf (byteAt s p / 16) < byteAt s p % 16
  · rw [if_pos h3] at h; injection h with h1 h2; omega
  rw [if_neg h3] at h
  by_cases h4 : deep = false
  · rw [if_pos h4] at h; injection h with h1 h2; omega
  rw [if_neg h4] at h
  by_cases h5 : s.size < p + 1 + byteAt s p % 16
  · rw [if_pos h5] at h; injection h with h1 h2; omega
  rw [if_neg h5] at h
  by_cases h6 : 0 < byteAt s p % 16 ∧ byteAt s (p + 1) = 0
  · rw [if_pos h6] at h; injection h with h1 h2; omega
  rw [if_neg h6] at h
  by_cases h7 : mostOf (byteAt s p / 16) < numAt s (p + 1) (byteAt s p % 16)
  · rw [if_pos h7] at h; injection h with h1 h2; omega
  rw [if_neg h7] at h
  by_cases h8 : byteAt s p / 16 = 1
  · rw [if_pos h8] at h; cases h
  rw [if_neg h8] at h
  by_cases h9 : byteAt s p / 16 = 2
  · rw [if_pos h9] at h; cases h
  rw [if_neg h9] at h
  by_cases h10 : byteAt s p / 16 = 3
  · rw [if_pos h10] at h
    by_cases h11 : s.size < p + 1 + byteAt s p % 16 + numAt s (p + 1) (byteAt s p % 16)
    · rw [if_pos h11] at h; injection h with h1 h2; omega
    · rw [if_neg h11] at h; cases h
  rw [if_neg h10] at h
  cases hm : manyW g (numAt s (p + 1) (byteAt s p % 16)) (p + 1 + byteAt s p % 16) [] with
  | ok l q' => rw [hm, rowR] at h; cases h
  | bad p2 e2 =>
    rw [hm, rowR] at h
    injection h with h1 h2
    subst h2
    exact manyW_bad (hg (by simpa using h4)) _ _ _ _ _ hm
theorem cellD_bad (s : ByteArray) : ∀ (d p p' e : Nat), cellD s d p = .bad p' e → e = 3 ∨ e = 4 ∨ e = 5
  | 0, p, p', e, h => cellW_bad (fun x => by cases x) h
  | d + 1, p, p', e, h => cellW_bad (fun _ q p e hq => cellD_bad s d q p e hq) h
/-- What a reading gives. -/
structure Got (s : ByteArray) (d p : Nat) (x : S38) (q : Nat) : Prop where
  lt : p < q
  le : q ≤ s.size
  wf : wfS x
  ok : okS d x = true
  enc : cut s p (q - p) = encS x
theorem manyW_ok {s : ByteArray} {d : Nat} {f : Nat → DR S38} (hf : ∀ q x q', f q = .ok x q' → Got s d q x q') : ∀ (k q : Nat) (acc l : List S38) (q' : Nat), q ≤ s.size → manyW f k q acc = .ok l q' →
    ∃ l', l = acc ++ l' ∧ l'.length = k ∧ q ≤ q' ∧ q' ≤ s.size ∧ (∀ y ∈ l', wfS y ∧ okS d y = true) ∧ cut s q (q' - q) = encL l'
  | 0, q, acc, l, q', hq, h => by
    rw [manyW] at h
    injection h with h1 h2
    subst h1; subst h2
    exact ⟨[], by simp, rfl, Nat.le_refl _, hq, fun y hy => by simp at hy, by rw [Nat.sub_self, cut_zero, encL]⟩
  | k + 1, q, acc, l, q', hq, h => by
    rw [manyW] at h
    cases hx : f q with
    | bad p' e' => rw [hx] at h; cases h
    | ok x q1 =>
      rw [hx] at h
      have g := hf q x q1 hx
      obtain ⟨l', rfl, hl, h1, h2, h3, h4⟩ := manyW_ok hf k q1 (acc ++ [x]) l q' g.le h
      have := g.lt
      refine ⟨x :: l', by simp, by simp [hl], by omega, h2, fun y hy => ?_, ?_⟩
      · rcases List.mem_cons.1 hy with rfl | hy
        · exact ⟨g.wf, g.ok⟩
        · exact h3 y hy
      · rw [show q' - q = (q1 - q) + (q' - q1) by omega, cut_append, g.enc, show q + (q1 - q) = q1 by omega, h4, encL]
theorem most_1 : mostOf 1 = 9223372036854775807 := rfl
theorem most_2 : mostOf 2 = 9223372036854775807 := rfl
theorem most_3 : mostOf 3 = 65535 := rfl
theorem most_4 : mostOf 4 = 4095 := rfl
theorem cellD_got (s : ByteArray) (hs : s.size ≤ 140737488355328) : ∀ (d p : Nat) (x : S38) (q : Nat), cellD s d p = .ok x q → Got s d p x q
  | 0, p, x, q, h => by
    obtain ⟨_, _, _, _, e, _⟩ := cellW_ok h
    cases e
  | d + 1, p, x, q, h => by
    obtain ⟨h1, h2, h3, h4, _, h5, h6, h7, hx⟩ := cellW_ok h
    have hsz := Lib.size_eq s
    have hbes := bes_num (s := s) (p := p + 1) (byteAt s p % 16) (by omega) h6
    have hbl := cut_len (s := s) (p := p + 1) (n := byteAt s p % 16) (by omega)
    generalize hk : numAt s (p + 1) (byteAt s p % 16) = k at *
    have hhead : ∀ j, byteAt s p / 16 = j → cut s p (1 + byteAt s p % 16) = headB j k := by
      intro j hj
      rw [Nat.add_comm, cut_cons (by omega), headB, hbes, hbl]
      congr 2
      omega
    rcases hx with ⟨hj, rfl, rfl⟩ | ⟨hj, rfl, rfl⟩ | ⟨hj, hle, rfl, rfl⟩ | ⟨hj, l, hm, rfl⟩
    · rw [hj, most_1] at h7
      refine ⟨by omega, h5, ?_, ?_, ?_⟩
      · rw [wfS, wfL]; exact ⟨by omega, by omega, by decide, by decide, trivial⟩
      · rw [okS, if_pos rfl]; rfl
      · rw [encS, if_pos rfl, if_neg (by omega), show p + 1 + byteAt s p % 16 - p = 1 + byteAt s p % 16 by omega, hhead 1 hj, Int.toNat_natCast]
    · rw [hj, most_2] at h7
      refine ⟨by omega, h5, ?_, ?_, ?_⟩
      · rw [wfS, wfL]; exact ⟨by omega, by omega, by decide, by decide, trivial⟩
      · rw [okS, if_pos rfl]; rfl
      · rw [encS, if_pos rfl, if_pos (by omega), show p + 1 + byteAt s p % 16 - p = 1 + byteAt s p % 16 by omega, hhead 2 hj, show (-(-1 - (k : Int) + 1)).toNat = k by omega]
    · rw [hj, most_3] at h7
      have hxs : (s.extract (p + 1 + byteAt s p % 16) (p + 1 + byteAt s p % 16 + k)).data.toList = cut s (p + 1 + byteAt s p % 16) k := by rw [Lib.extract_data]; unfold cut; congr 1; omega
      have hxl : (s.extract (p + 1 + byteAt s p % 16) (p + 1 + byteAt s p % 16 + k)).size = k := by rw [Lib.size_eq, hxs, cut_len (by omega)]
      refine ⟨by omega, by omega, ?_, ?_, ?_⟩
      · rw [wfS, wfL, hxl]; exact ⟨by decide, by decide, by omega, by decide, trivial⟩
      · rw [okS, if_neg (by decide), if_pos rfl, hxl]; simp; omega
      · rw [encS, if_neg (by decide), if_pos rfl, hxl, hxs, show p + 1 + byteAt s p % 16 + k - p = (1 + byteAt s p % 16) + k by omega, cut_append, hhead 3 hj, show p + (1 + byteAt s p % 16) = p + 1 + byteAt s p % 16 by omega]
    · rw [hj, most_4] at h7
      obtain ⟨l', e, hl, g1, g2, g3, g4⟩ := manyW_ok (fun q x q' hq => cellD_got s hs d q x q' hq) _ _ _ _ _ h5 hm
      rw [List.nil_append] at e
      subst e
      refine ⟨by omega, g2, ?_, ?_, ?_⟩
      · rw [wfS]; exact ⟨by decide, by decide, by decide, by omega, wfL_of (fun y hy => (g3 y hy).1)⟩
      · rw [okS, if_neg (by decide), if_neg (by decide), if_pos rfl]
        have : l.all (okS d) = true := List.all_eq_true.2 (fun y hy => (g3 y hy).2)
        rw [this, decide_eq_true (show l.length ≤ 4095 by omega)]; rfl
      · rw [encS, if_neg (by decide), if_neg (by decide), show q - p = (1 + byteAt s p % 16) + (q - (p + 1 + byteAt s p % 16)) by omega, cut_append, hhead 4 hj, show p + (1 + byteAt s p % 16) = p + 1 + byteAt s p % 16 by omega, g4, hl]
end Go.Proofs.YtgjlchcfdbmmlaaGreatDoor.PObjectPuts
namespace Go.Proofs.YtgjlchcfdbmmlaaGreatDoor.PObjectPuts
open Go.RowKit Go.Proofs.YtgjlchcfdbmmlaaGreatDoorW.PrintWords Go.Proofs.YtgjlchcfdbmmlaaGreatDoorW.PrintLast Go.Proofs.YtgjlchcfdbmmlaaGreatDoorW.PrintMore

theorem ofNat_inj {a b : Nat} (ha : a < 256) (hb : b < 256) (h : UInt8.ofNat a = UInt8.ofNat b) : a = b := by
  have := congrArg UInt8.toNat h
  simp only [UInt8.toNat_ofNat'] at this
  omega
theorem cut_parts {s : ByteArray} {p n m : Nat} {A B : List UInt8} (h : cut s p (n + m) = A ++ B) (hA : A.length = n) (hl : p + n ≤ s.data.toList.length) : cut s p n = A ∧ cut s (p + n) m = B := by
  rw [cut_append] at h
  exact List.append_inj h (by rw [cut_len hl, hA])
theorem num_bes {s : ByteArray} {p : Nat} : ∀ (m k : Nat), k < m → p + (bes k).length ≤ s.data.toList.length → cut s p (bes k).length = bes k → numAt s p (bes k).length = k ∧ (0 < k → byteAt s p ≠ 0)
  | 0, k, h, _, _ => by omega
  | m + 1, k, h, hl, hc => by
    rcases Nat.eq_zero_or_pos k with rfl | h0
    · rw [bes_zero]; exact ⟨rfl, fun h => absurd h (by decide)⟩
    · rw [bes_pos h0] at hl hc ⊢
      rw [List.length_append, List.length_singleton] at hl hc ⊢
      rw [cut_snoc (by omega)] at hc
      obtain ⟨h1, h2⟩ := List.append_inj hc (by rw [cut_len (by omega)])
      injection h2 with h2 _
      have hb := ofNat_inj (byteAt_lt s _) (by omega) h2
      obtain ⟨i1, i2⟩ := num_bes m (k / 256) (by omega) (by omega) h1
      refine ⟨by rw [numAt, i1, hb]; omega, fun _ => ?_⟩
      rcases Nat.eq_zero_or_pos (k / 256) with hz | hz
      · rw [hz, bes_zero] at hb
        simp only [List.length_nil, Nat.add_zero] at hb
        omega
      · exact i2 hz
/-- The head of a cell, where it lies. -/
theorem head_at {s : ByteArray} {p j k : Nat} (hj : j < 15) (hk : k < 18446744073709551616) (hl : p + (headB j k).length ≤ s.data.toList.length) (hc : cut s p (headB j k).length = headB j k) :
    byteAt s p / 16 = j ∧ byteAt s p % 16 = (bes k).length ∧ numAt s (p + 1) (bes k).length = k ∧ (0 < (bes k).length → byteAt s (p + 1) ≠ 0) := by
  have h8 := bes_len8 hk
  unfold headB at hl hc
  rw [List.length_cons] at hl hc
  rw [cut_cons (by omega)] at hc
  injection hc with h1 h2
  have hb := ofNat_inj (byteAt_lt s _) (by omega) h1
  obtain ⟨i1, i2⟩ := num_bes (k + 1) k (by omega) (by omega) h2
  refine ⟨by omega, by omega, i1, fun h => i2 ?_⟩
  rcases Nat.eq_zero_or_pos k with rfl | h0
  · rw [bes_zero] at h; simp at h
  · exact h0
theorem headB_length (j k : Nat) : (headB j k).length = 1 + (bes k).length := by unfold headB; rw [List.length_cons]; omega
theorem empty_of {s : ByteArray} (h : s.size = 0) : s = ⟨#[]⟩ := by
  apply ByteArray.ext
  exact Array.eq_empty_of_size_eq_zero h
theorem bes_width {k w : Nat} (h : k < 256 ^ w) : (bes k).length ≤ w := bes_len w k h
/-- Reading the head, all that comes before the kinds part. -/
theorem cellW_head {s : ByteArray} {g : Nat → DR S38} {p j k : Nat} (hj1 : 1 ≤ j) (hj : j ≤ 4) (hk : k ≤ mostOf j) (hl : p + 1 + (bes k).length ≤ s.size) (hc : cut s p (headB j k).length = headB j k) :
    cellW s true g p = if j = 1 then .ok ⟨1, (k : Int), ⟨#[]⟩, []⟩ (p + 1 + (bes k).length) else if j = 2 then .ok ⟨1, -1 - (k : Int), ⟨#[]⟩, []⟩ (p + 1 + (bes k).length)
      else if j = 3 then (if s.size < p + 1 + (bes k).length + k then .bad s.size 3 else .ok ⟨2, 0, s.extract (p + 1 + (bes k).length) (p + 1 + (bes k).length + k), []⟩ (p + 1 + (bes k).length + k))
      else match manyW g k (p + 1 + (bes k).length) [] with
        | .ok l q' => .ok ⟨3, 0, ⟨#[]⟩, l⟩ q'
        | .bad p' e => .bad p' e := by
  have hmw : k < 18446744073709551616 ∧ (bes k).length ≤ widthOf j := by
    by_cases h12 : j = 1 ∨ j = 2
    · have hm : mostOf j = 9223372036854775807 := by unfold mostOf; rw [if_pos h12]
      have hw : widthOf j = 8 := by unfold widthOf; rw [if_pos h12]
      rw [hm] at hk; rw [hw]
      exact ⟨by omega, bes_len8 (by omega)⟩
    · have hw : widthOf j = 2 := by unfold widthOf; rw [if_neg h12]
      have hm : k ≤ 65535 := by unfold mostOf at hk; rw [if_neg h12] at hk; split at hk <;> omega
      rw [hw]
      exact ⟨by omega, bes_width (by simp; omega)⟩
  have hlen := headB_length j k
  obtain ⟨h1, h2, h3, h4⟩ := head_at (s := s) (p := p) (j := j) (k := k) (by omega) hmw.1 (by rw [hlen, ← Lib.size_eq]; omega) hc
  rw [cellW_eq, if_neg (by omega)]
  rw [h1, h2, h3, if_neg (by omega), if_neg (by omega), if_neg (by decide), if_neg (by omega), if_neg (by rintro ⟨a, b⟩; exact h4 a b), if_neg (by omega)]
  rfl
/-- What is placed is read. -/
def Placed (s : ByteArray) (d p : Nat) (x : S38) : Prop := cut s p (encS x).length = encS x → p + (encS x).length ≤ s.size → cellD s d p = .ok x (p + (encS x).length)
theorem many_placed {s : ByteArray} {f : Nat → DR S38} : ∀ (l : List S38), (∀ y ∈ l, ∀ p, cut s p (encS y).length = encS y → p + (encS y).length ≤ s.size → f p = .ok y (p + (encS y).length)) → ∀ (q : Nat) (acc : List S38),
    cut s q (encL l).length = encL l → q + (encL l).length ≤ s.size → manyW f l.length q acc = .ok (acc ++ l) (q + (encL l).length)
  | [], _, q, acc, _, _ => by rw [List.length_nil, manyW, encL, List.append_nil, List.length_nil, Nat.add_zero]
  | y :: ys, hf, q, acc, hc, hl => by
    have hsz := Lib.size_eq s
    rw [encL] at hc hl ⊢
    rw [List.length_append] at hc hl ⊢
    obtain ⟨c1, c2⟩ := cut_parts hc rfl (by omega)
    rw [List.length_cons, manyW, hf y List.mem_cons_self q c1 (by omega)]
    simp only
    rw [many_placed ys (fun z hz => hf z (List.mem_cons_of_mem _ hz)) _ _ c2 (by omega), List.append_assoc, Nat.add_assoc]
    rfl
theorem extract_cut {s : ByteArray} {a k : Nat} {t : ByteArray} (hk : t.size = k) (h : cut s a k = t.data.toList) : s.extract a (a + k) = t := by
  rw [Lib.extract_eq]
  unfold cut at h
  rw [show a + k - a = k by omega, h]
/-- A right cell: its kind, and what it has. -/
theorem ok_cases {d : Nat} {x : S38} (h : okS d x = true) : ∃ d', d = d' + 1 ∧ ((∃ n, x = ⟨1, n, ⟨#[]⟩, []⟩) ∨ (∃ t, x = ⟨2, 0, t, []⟩ ∧ t.size ≤ 65535) ∨ ∃ l, x = ⟨3, 0, ⟨#[]⟩, l⟩ ∧ l.length ≤ 4095 ∧ ∀ y ∈ l, okS d' y = true) := by
  cases d with
  | zero => rw [okS] at h; cases h
  | succ d =>
    obtain ⟨k, n, s, l⟩ := x
    rw [okS] at h
    refine ⟨d, rfl, ?_⟩
    split at h
    · rename_i hk
      simp only [Bool.and_eq_true, decide_eq_true_eq] at h
      exact .inl ⟨n, by rw [hk, empty_of h.1, List.eq_nil_of_length_eq_zero h.2]⟩
    split at h
    · rename_i hk
      simp only [Bool.and_eq_true, decide_eq_true_eq] at h
      exact .inr (.inl ⟨s, by rw [hk, h.1, List.eq_nil_of_length_eq_zero h.2.1], h.2.2⟩)
    split at h
    · rename_i hk
      simp only [Bool.and_eq_true, decide_eq_true_eq, List.all_eq_true] at h
      exact .inr (.inr ⟨l, by rw [hk, h.1, empty_of h.2.1], h.2.2.1, h.2.2.2⟩)
    · cases h
theorem encS_num (n : Int) : encS ⟨1, n, ⟨#[]⟩, []⟩ = if n < 0 then headB 2 (-(n + 1)).toNat else headB 1 n.toNat := by rw [encS, if_pos rfl]
theorem encS_text (t : ByteArray) : encS ⟨2, 0, t, []⟩ = headB 3 t.size ++ t.data.toList := by rw [encS, if_neg (by decide), if_pos rfl]
theorem encS_list (l : List S38) : encS ⟨3, 0, ⟨#[]⟩, l⟩ = headB 4 l.length ++ encL l := by rw [encS, if_neg (by decide), if_neg (by decide)]
theorem placed_any (s : ByteArray) : ∀ (d : Nat) (p : Nat) (x : S38), okS d x = true → wfS x → Placed s d p x := by
  intro d
  induction d with
  | zero => intro p x h; rw [okS] at h; cases h
  | succ d ih =>
    intro p x h hw hc hl
    have hsz := Lib.size_eq s
    obtain ⟨d', hd, hx⟩ := ok_cases h
    obtain rfl : d = d' := by omega
    rw [cellD]
    rcases hx with ⟨n, rfl⟩ | ⟨t, rfl, ht⟩ | ⟨l, rfl, hll, hok⟩
    · rw [wfS] at hw
      rw [encS_num] at hc hl ⊢
      by_cases hn : n < 0
      · rw [if_pos hn] at hc hl ⊢
        have hlen := headB_length 2 (-(n + 1)).toNat
        rw [cellW_head (j := 2) (by decide) (by decide) (by rw [most_2]; omega) (by omega) hc, if_neg (by decide), if_pos rfl, hlen]
        congr 1
        · congr 1; omega
        · omega
      · rw [if_neg hn] at hc hl ⊢
        have hlen := headB_length 1 n.toNat
        rw [cellW_head (j := 1) (by decide) (by decide) (by rw [most_1]; omega) (by omega) hc, if_pos rfl, hlen]
        congr 1
        · congr 1; omega
        · omega
    · rw [encS_text] at hc hl ⊢
      have hlen := headB_length 3 t.size
      have htl := Lib.size_eq t
      rw [List.length_append] at hc hl ⊢
      obtain ⟨c1, c2⟩ := cut_parts hc rfl (by omega)
      rw [cellW_head (j := 3) (by decide) (by decide) (by rw [most_3]; omega) (by omega) c1, if_neg (by decide), if_neg (by decide), if_pos rfl, if_neg (by omega)]
      rw [← htl, hlen, show p + (1 + (bes t.size).length) = p + 1 + (bes t.size).length by omega] at c2
      rw [extract_cut rfl c2]
      congr 1
      omega
    · rw [wfS] at hw
      rw [encS_list] at hc hl ⊢
      have hlen := headB_length 4 l.length
      rw [List.length_append] at hc hl ⊢
      obtain ⟨c1, c2⟩ := cut_parts hc rfl (by omega)
      rw [cellW_head (j := 4) (by decide) (by decide) (by rw [most_4]; omega) (by omega) c1, if_neg (by decide), if_neg (by decide), if_neg (by decide)]
      rw [hlen, show p + (1 + (bes l.length).length) = p + 1 + (bes l.length).length by omega] at c2
      rw [many_placed l (fun y hy q => ih q y (hok y hy) (wfL_mem hw.2.2.2.2 hy)) _ _ c2 (by omega)]
      simp only [List.nil_append]
      congr 1
      omega
end Go.Proofs.YtgjlchcfdbmmlaaGreatDoor.PObjectPuts
namespace Go.Proofs.YtgjlchcfdbmmlaaGreatDoor.PObjectPuts
open Go.RowKit Go.Proofs.YtgjlchcfdbmmlaaGreatDoor.Ord Go.Proofs.YtgjlchcfdbmmlaaGreatDoor.Obj Go.Proofs.YtgjlchcfdbmmlaaGreatDoorW.PrintWords Go.Proofs.YtgjlchcfdbmmlaaGreatDoorW.PrintLast Go.Proofs.YtgjlchcfdbmmlaaGreatDoorW.PrintMore
attribute [local irreducible] OpGives

/-- What Take answers, of a cell. -/
def takeC (x : S38) : Ob × Int := match objD x with
  | some o => if okOb o then (o, 0) else (zOb, 4)
  | none => (zOb, 4)
/-- What Take answers. -/
def takeO (s : ByteArray) : Ob × Int := if (takeR s).2 ≠ 0 then (zOb, ((takeR s).2 : Int)) else takeC (takeR s).1
def TakeOPost (r : Ob × Int) (w : World) (e : Ending) (w' : World) : Prop :=
  ∃ Ar cr Ak ck Ap cp, e = .returned (.tuple #[.agg (obV r.1 Ar cr Ak ck Ap cp), .int .i64 r.2]) ∧ ObR w' w.heap.size r.1 Ar cr Ak ck Ap cp ∧ Below w.heap.size w w'
theorem ob_results4 : (Tryz.f15).results = #[.cell 2 27, .tmp 3] := Tryz.results15
theorem parts_enc : ∀ (d : Nat) (x : S38), okS d x = true → parts x ≤ (encS x).length
  | 0, x, h => by rw [okS] at h; cases h
  | d + 1, x, h => by
    have hh : ∀ a b, 1 ≤ (headB a b).length := fun a b => by rw [headB_length]; omega
    obtain ⟨d', e, hx⟩ := ok_cases h
    have hd : d' = d := by omega
    subst hd
    rcases hx with ⟨n, rfl⟩ | ⟨t, rfl, ht⟩ | ⟨l, rfl, hl, hk⟩
    · rw [parts, partsL, encS_num]
      have h1 := hh 2 (-(n + 1)).toNat
      have h2 := hh 1 n.toNat
      have hz : (ByteArray.mk #[]).size = 0 := rfl
      rw [hz]
      split <;> omega
    · rw [parts, partsL, encS_text, List.length_append]
      have h1 := hh 3 t.size
      have h2 : t.data.toList.length = t.size := by rw [Lib.size_eq]
      omega
    · rw [parts, encS_list, List.length_append]
      have h1 := hh 4 l.length
      have hz : (ByteArray.mk #[]).size = 0 := rfl
      rw [hz]
      have hL : ∀ l' : List S38, (∀ y ∈ l', y ∈ l) → partsL l' ≤ (encL l').length := by
        intro l'
        induction l' with
        | nil => intro _; rw [partsL]; omega
        | cons y ys ih =>
          intro hy
          rw [partsL, encL, List.length_append]
          have := ih (fun z hz => hy z (List.mem_cons_of_mem _ hz))
          have := parts_enc d' y (hk y (hy y List.mem_cons_self))
          omega
      have := hL l (fun _ h => h)
      omega
set_option maxHeartbeats 16000000 in
set_option maxRecDepth 100000 in
theorem otake_calls (s : ByteArray) (w : World) (hs : s.size ≤ 1000000) (hp : (takeR s).2 = 0 → parts (takeR s).1 ≤ 1000000) (hT : Lib.Utf8Tabs 0 1 w) :
    Calls Tryz.prog 15 #[.string s] w (TakeOPost (takeO s) w) := by
  obtain ⟨W1, hW1⟩ : ∃ W1, W1 = w.alloc (.cells obZ 27) := ⟨_, rfl⟩
  have hn1 : Below w.heap.size w W1 := by rw [hW1]; exact (Below.refl _ _).alloc (Nat.le_refl _) _
  have hg1 : W1.heap[w.heap.size]? = some (.cells obZ 27 (0, 0)) := by rw [hW1]; exact alloc_lastV _ _
  have hs1 : W1.heap.size = w.heap.size + 1 := by rw [hW1]; simp
  have HTK := Lib.hid (Take_calls s W1 (by omega))
  obtain ⟨RP, hRP⟩ : ∃ RP : Ending → World → Prop, RP = TakeOPost (takeO s) w := ⟨_, rfl⟩
  rw [← hRP]
  unfold takeO at hRP
  obtain ⟨⟨x, f⟩, hx⟩ : ∃ y, y = takeR s := ⟨_, rfl⟩
  rw [← hx] at hRP hp HTK
  simp only at hRP hp
  have HRP := Lib.hid hRP
  have HN1 := Lib.hid hn1
  have HG1 := Lib.hid hg1
  have HS1 := Lib.hid hs1
  have HP := Lib.hid hp
  have HT := Lib.hid (Utf8Tabs_below hT hn1)
  unfold obZ at hW1
  have HW1 := Lib.hid hW1
  clear hn1 hg1 hs1 hW1 hRP hx hp hT
  have hzero : ∀ W, Below w.heap.size w W → W.heap[w.heap.size]? = some (.cells obZ 27 (0, 0)) → ∀ (er : Int) (tmps : Array Value), tmps.getD 2 undef = .pointer (some ⟨w.heap.size, 0, none⟩) → tmps.getD 3 undef = .int .i64 er → (RP = TakeOPost (zOb, er) w) →
      bodyPost Tryz.prog Tryz.f15 RP Exit.ret { tmps := tmps, defers := [] } W := fun W hW hg er tmps t2 t3 e => by
    refine bodyPost_ret (results_ob ob_results4 _ _ w.heap.size _ _ _ _ _ _ _ _ _ t2 t3 hg) rfl ?_
    rw [e]
    exact ⟨none, 0, none, 0, none, 0, rfl, ObR_zero _ _, hW⟩
  have HZERO := Lib.hid hzero
  clear hzero
  go_enter Tryz.func15, Tryz.ntmps15
  go_wp2_with fail
  rw [← HW1.out]
  refine HTK.out.mono ?_
  rintro e W2 ⟨v3, rfl, hR, hb2⟩
  simp only at hR ⊢
  obtain ⟨A3, c3, rfl⟩ := R_slice hR
  obtain ⟨W3, hW3⟩ : ∃ W3, W3 = W2.alloc (.cells #[.int .i64 x.f0, .int .i64 x.f1, .string x.f2, .slice A3 x.f3.length c3] 38) := ⟨_, rfl⟩
  have hn3 : Below W2.heap.size W2 W3 := by rw [hW3]; exact (Below.refl _ _).alloc (Nat.le_refl _) _
  have hg3 : W3.heap[W2.heap.size]? = some (.cells #[.int .i64 x.f0, .int .i64 x.f1, .string x.f2, .slice A3 x.f3.length c3] 38 (0, 0)) := by rw [hW3]; exact alloc_lastV _ _
  have hb13 : Below W1.heap.size W1 W3 := hb2.trans (hn3.mono hb2.size)
  have hz3 := (hb13.block _ (Array.getElem?_eq_some_iff.1 HG1.out).1).trans HG1.out
  unfold obZ at hz3
  have hbw : Below w.heap.size w W3 := HN1.out.trans (hb13.mono HN1.out.size)
  obtain ⟨_, hlc, hC⟩ := Kd.R_reads' (Kd.R_below hR hn3)
  obtain ⟨⟨z0, z1, z2, z3⟩, z4, z5, z6, z7⟩ := box8 hz3
  obtain ⟨⟨f0, f1, f2, f3⟩, f4, f5, f6, f7⟩ := frozen8 hz3
  obtain ⟨⟨y0, y1, y2, y3⟩, _⟩ := box4 hg3
  have HZ3 := Lib.hid hz3
  have HBW := Lib.hid hbw
  have HCX := Lib.hid (And.intro hlc hC)
  have HT3 := Lib.hid (Utf8Tabs_below HT.out hb13)
  have HS3 := Lib.hid (show W1.heap.size ≤ W3.heap.size from hb13.size)
  rw [hW3] at z0 z1 z2 z3 z4 z5 z6 z7 f0 f1 f2 f3 f4 f5 f6 f7 y0 y1 y2 y3
  have HW3 := Lib.hid hW3
  clear hR hb2 hn3 hg3 hb13 hz3 hbw hlc hC hW3
  by_cases he : f ≠ 0
  · have he' : ((f : Int) != 0) = true := by simp; omega
    go_wp2_with fail
    rw [← HW3.out]
    refine HZERO.out (put8 W3 w.heap.size (.int .i64 0) (.string (⟨#[]⟩ : ByteArray)) (.slice none 0 0) (.slice none 0 0) (.slice none 0 0) (.int .i64 0) (.string (⟨#[]⟩ : ByteArray)) (.string (⟨#[]⟩ : ByteArray))) (put8_below HBW.out (Nat.le_refl _) _ _ _ _ _ _ _ _) (put8_same HZ3.out _ _ _ _ _ _ _ _) (f : Int) _ rfl rfl ?_
    rw [HRP.out, if_pos he]
  · have he' : ((f : Int) != 0) = false := by simp; omega
    have hf0 : f = 0 := by omega
    have HPL := Lib.hid (plain_calls (SizeOf.sizeOf x + 1) x (Nat.lt_succ_self _) A3 c3 W3 HCX.out.2 HCX.out.1 (HP.out hf0))
    clear z0 z1 z2 z3 z4 z5 z6 z7 f0 f1 f2 f3 f4 f5 f6 f7
    go_wp2_with fail
    rw [← HW3.out]
    clear y0 y1 y2 y3
    refine HPL.out.mono ?_
    rintro e W4 ⟨u, rfl, hu, hb4⟩
    have hb4w := HBW.out.trans (hb4.mono HBW.out.size)
    have HOF := Lib.hid (objectOf_calls x u W4 (kA.K_of_M hu) (HP.out hf0) (Utf8Tabs_below HT3.out hb4))
    have HB4 := Lib.hid hb4w
    have HZ4 := Lib.hid ((hb4.block _ (Array.getElem?_eq_some_iff.1 HZ3.out).1).trans HZ3.out)
    have HT4 := Lib.hid (Utf8Tabs_below HT3.out hb4)
    have HS4 := Lib.hid (show w.heap.size + 1 ≤ W4.heap.size by have := HS3.out; have := hb4.size; have := HS1.out; omega)
    clear hb4 hb4w hu
    go_wp2_with fail
    refine HOF.out.mono ?_
    rintro e W5 ⟨Ar, cr, Ak, ck, Ap, cp, rfl, hO, hb5⟩
    have hob5 : ObAt W5 ((objD x).getD zOb) Ar cr Ak ck Ap cp := hO.at_
    obtain ⟨W6, hW6⟩ : ∃ W6, W6 = W5.alloc (.cells (obV ((objD x).getD zOb) Ar cr Ak ck Ap cp) 27) := ⟨_, rfl⟩
    have hn6 : Below W5.heap.size W5 W6 := by rw [hW6]; exact (Below.refl _ _).alloc (Nat.le_refl _) _
    have hg6 : W6.heap[W5.heap.size]? = some (.cells (obV ((objD x).getD zOb) Ar cr Ak ck Ap cp) 27 (0, 0)) := by rw [hW6]; exact alloc_lastV _ _
    have hb46 : Below W4.heap.size W4 W6 := hb5.trans (hn6.mono hb5.size)
    have HZ6 := Lib.hid ((hb46.block _ (Array.getElem?_eq_some_iff.1 HZ4.out).1).trans HZ4.out)
    have HB6 := Lib.hid (HB4.out.trans (hb46.mono HB4.out.size))
    have HCK := Lib.hid (ocheck_calls _ Ar cr Ak ck Ap cp W6 (hob5.below hn6) (Utf8Tabs_below HT4.out hb46))
    have HO6 := Lib.hid (hO.move (base' := w.heap.size + 1) (W := W6) (fun k hk hl => hn6.block k hl) HS4.out)
    have HG6 := Lib.hid hg6
    have hrp : RP = TakeOPost (takeC x) w := by rw [HRP.out, if_neg he]
    unfold takeC at hrp
    have HRP2 := Lib.hid hrp
    unfold obV at hW6 HCK HG6
    obtain ⟨⟨y0, y1, y2, y3⟩, y4, y5, y6, y7⟩ := box8 HG6.out
    obtain ⟨⟨z0, z1, z2, z3⟩, z4, z5, z6, z7⟩ := box8 HZ6.out
    obtain ⟨⟨f0, f1, f2, f3⟩, f4, f5, f6, f7⟩ := frozen8 HZ6.out
    rw [hW6] at y0 y1 y2 y3 y4 y5 y6 y7 z0 z1 z2 z3 z4 z5 z6 z7 f0 f1 f2 f3 f4 f5 f6 f7
    have HW6 := Lib.hid hW6
    clear hob5 hn6 hg6 hb46 hO hb5 hrp hW6
    unfold obV
    cases hod : objD x with
    | none =>
      rw [hod] at HRP2
      have HRP3 := Lib.hid (show RP = TakeOPost (zOb, 4) w from HRP2.out)
      simp only [hod, Option.getD_none] at HW6 HG6 HCK HO6 y0 y1 y2 y3 y4 y5 y6 y7 z0 z1 z2 z3 z4 z5 z6 z7 f0 f1 f2 f3 f4 f5 f6 f7 ⊢
      clear hod
      go_wp2_with fail
      rw [← HW6.out]
      refine HZERO.out (put8 W6 w.heap.size (.int .i64 0) (.string (⟨#[]⟩ : ByteArray)) (.slice none 0 0) (.slice none 0 0) (.slice none 0 0) (.int .i64 0) (.string (⟨#[]⟩ : ByteArray)) (.string (⟨#[]⟩ : ByteArray))) (put8_below HB6.out (Nat.le_refl _) _ _ _ _ _ _ _ _) (put8_same HZ6.out _ _ _ _ _ _ _ _) 4 _ rfl rfl HRP3.out
    | some o =>
      rw [hod] at HRP2
      simp only [hod, Option.getD_some, Option.isSome_some] at HW6 HG6 HCK HO6 y0 y1 y2 y3 y4 y5 y6 y7 z0 z1 z2 z3 z4 z5 z6 z7 f0 f1 f2 f3 f4 f5 f6 f7 ⊢
      clear hod
      generalize hrb : okOb o = rb at HCK HRP2
      have HRB := Lib.hid hrb
      obtain ⟨o0, o1, o2, o3, o4, o5, o6, o7⟩ := o
      simp only at HW6 HG6 HCK HO6 y0 y1 y2 y3 y4 y5 y6 y7 z0 z1 z2 z3 z4 z5 z6 z7 f0 f1 f2 f3 f4 f5 f6 f7 ⊢
      clear hrb
      cases rb with
      | false =>
        have HRP3 := Lib.hid (show RP = TakeOPost (zOb, 4) w from by rw [HRP2.out]; simp only [HRB.out]; rfl)
        go_wp2_with fail
        rw [← HW6.out]
        clear y0 y1 y2 y3 y4 y5 y6 y7 z0 z1 z2 z3 z4 z5 z6 z7 f0 f1 f2 f3 f4 f5 f6 f7
        refine HCK.out.mono ?_
        rintro e W7 ⟨rfl, hb7⟩
        have HZ7 := Lib.hid ((hb7.block _ (Array.getElem?_eq_some_iff.1 HZ6.out).1).trans HZ6.out)
        have HB7 := Lib.hid (HB6.out.trans (hb7.mono HB6.out.size))
        obtain ⟨⟨z0, z1, z2, z3⟩, z4, z5, z6, z7⟩ := box8 HZ7.out
        obtain ⟨⟨f0, f1, f2, f3⟩, f4, f5, f6, f7⟩ := frozen8 HZ7.out
        clear hb7
        go_wp2_with fail
        refine HZERO.out (put8 W7 w.heap.size (.int .i64 0) (.string (⟨#[]⟩ : ByteArray)) (.slice none 0 0) (.slice none 0 0) (.slice none 0 0) (.int .i64 0) (.string (⟨#[]⟩ : ByteArray)) (.string (⟨#[]⟩ : ByteArray))) (put8_below HB7.out (Nat.le_refl _) _ _ _ _ _ _ _ _) (put8_same HZ7.out _ _ _ _ _ _ _ _) 4 _ rfl rfl HRP3.out
      | true =>
        have HRP3 := Lib.hid (show RP = TakeOPost (⟨o0, o1, o2, o3, o4, o5, o6, o7⟩, 0) w from by rw [HRP2.out]; simp only [HRB.out]; rfl)
        go_wp2_with fail
        rw [← HW6.out]
        clear y0 y1 y2 y3 y4 y5 y6 y7 z0 z1 z2 z3 z4 z5 z6 z7 f0 f1 f2 f3 f4 f5 f6 f7
        refine HCK.out.mono ?_
        rintro e W7 ⟨rfl, hb7⟩
        have HZ7 := Lib.hid ((hb7.block _ (Array.getElem?_eq_some_iff.1 HZ6.out).1).trans HZ6.out)
        have HG7 := Lib.hid ((hb7.block _ (Array.getElem?_eq_some_iff.1 HG6.out).1).trans HG6.out)
        have HB7 := Lib.hid (HB6.out.trans (hb7.mono HB6.out.size))
        have HO7 := Lib.hid (HO6.out.move (W := W7) (fun k hk hl => hb7.block k hl) (Nat.le_refl _))
        obtain ⟨⟨z0, z1, z2, z3⟩, z4, z5, z6, z7⟩ := box8 HZ7.out
        obtain ⟨⟨y0, y1, y2, y3⟩, y4, y5, y6, y7⟩ := box8 HG7.out
        obtain ⟨⟨f0, f1, f2, f3⟩, f4, f5, f6, f7⟩ := frozen8 HZ7.out
        clear hb7
        go_wp2_with fail
        refine bodyPost_ret (results_ob ob_results4 _ _ w.heap.size _ _ _ _ _ _ _ _ _ rfl rfl (put8_same HZ7.out (.int .i64 o0) (.string o1) (.slice Ar o2.length cr) (.slice Ak o3.length ck) (.slice Ap o4.length cp) (.int .i64 o5) (.string o6) (.string o7))) rfl ?_
        rw [HRP3.out]
        exact ⟨Ar, cr, Ak, ck, Ap, cp, rfl, HO7.out.move (fun k hk _ => put8_far (by omega) _ _ _ _ _ _ _ _) (by omega), put8_below HB7.out (Nat.le_refl _) _ _ _ _ _ _ _ _⟩
end Go.Proofs.YtgjlchcfdbmmlaaGreatDoor.PObjectPuts
namespace Go.Proofs.YtgjlchcfdbmmlaaGreatDoor.PObjectPuts
open Go.RowKit Go.Proofs.YtgjlchcfdbmmlaaGreatDoor.Ord Go.Proofs.YtgjlchcfdbmmlaaGreatDoor.Obj Go.Proofs.YtgjlchcfdbmmlaaGreatDoorW.PrintWords Go.Proofs.YtgjlchcfdbmmlaaGreatDoorW.PrintLast Go.Proofs.YtgjlchcfdbmmlaaGreatDoorW.PrintMore

theorem isL_list (l : List S38) : isL (listC l) = true := by unfold isL listC; rfl
theorem rowD_C {x : S50} (h : okV x.f2 = true) : rowD (rowC x) = some x := by
  obtain ⟨_, hk, h1, h2⟩ := okV_size h
  unfold rowC rowD
  rw [if_pos (isL_list _)]
  obtain ⟨a, b, k, n, s⟩ := x
  simp only at hk h1 h2
  unfold listC valC
  simp only
  rcases hk with rfl | rfl
  · have := empty_str (h1 rfl)
    subst this
    rfl
  · have := h2 rfl
    subst this
    rfl
theorem rowsD_C : ∀ {l : List S50}, (∀ x ∈ l, okV x.f2 = true) → rowsD (l.map rowC) = some l
  | [], _ => rfl
  | x :: xs, h => by
    rw [List.map_cons, rowsD, rowD_C (h x List.mem_cons_self)]
    simp only
    rw [rowsD_C (fun y hy => h y (List.mem_cons_of_mem _ hy))]
    rfl
theorem takenR_C {l : List S50} (h : okRows l = true) : takenR (rowsC l) = (l, true) := by
  unfold takenR rowsC
  rw [if_pos (isL_list _)]
  show takenP (rowsD (l.map rowC)) = _
  rw [rowsD_C (fun x hx => ((okRows_parts h).2 x hx).2)]
  unfold takenP
  simp only [h]
theorem kidD_C {x : S52} (h : 0 ≤ x.f0 ∧ x.f0 ≤ 255) : kidD (kidC x) = some x := by
  unfold kidC kidD
  rw [if_pos (isL_list _)]
  show (if (1 : Int) = 1 ∧ (2 : Int) = 2 then (if 0 ≤ x.f0 ∧ x.f0 ≤ 255 then some (⟨x.f0, x.f1⟩ : S52) else none) else none) = some x
  rw [if_pos (by decide), if_pos h]
theorem kidsD_C : ∀ {l : List S52}, (∀ x ∈ l, 0 ≤ x.f0 ∧ x.f0 ≤ 255) → kidsD (l.map kidC) = some l
  | [], _ => rfl
  | x :: xs, h => by
    rw [List.map_cons, kidsD, kidD_C (h x List.mem_cons_self)]
    simp only
    rw [kidsD_C (fun y hy => h y (List.mem_cons_of_mem _ hy))]
    rfl
theorem strsD_C : ∀ (l : List ByteArray), strsD (l.map textC) = some l
  | [] => rfl
  | x :: xs => by
    rw [List.map_cons, strsD, if_pos (show (textC x).f0 = 2 from rfl), strsD_C xs]
    rfl
theorem obj_back {o : Ob} (h : okOb o = true) (hw : wfOb o) : objD (cellOf o) = some o := by
  unfold okOb at h
  unfold cellOf
  split at h
  · rename_i hk
    rw [if_pos hk]
    have p := okNode_parts h
    have e : objD (nodeC o) = nodeD (textC o.label) (rowsC o.rows) (listC (o.kids.map kidC)) := by
      unfold objD nodeC
      rw [if_pos (isL_list _)]
      show objL [numC 1, textC o.label, rowsC o.rows, listC (o.kids.map kidC)] = _
      rw [objL, if_pos ⟨rfl, rfl⟩]
    rw [e]
    unfold nodeD
    rw [takenR_C p.rows, if_pos ⟨rfl, rfl, isL_list _⟩]
    show (kidsD (o.kids.map kidC)).map _ = _
    rw [kidsD_C hw.kids]
    obtain ⟨knd, lab, rws, kds, prs, stp, nte, rot⟩ := o
    have p1 := p.par; have p2 := p.stamp; have p3 := p.note; have p4 := p.root
    simp only at p1 p2 p3 p4 hk
    subst p1; subst p2; subst p3; subst p4; subst hk
    rfl
  · rename_i hk
    rw [if_neg hk]
    split at h
    · rename_i hk2
      have p := okCommit_parts h
      have e : objD (commitC o) = commitD (listC (o.parents.map textC)) (numC o.stamp) (textC o.note) (textC o.root) := by
        unfold objD commitC
        rw [if_pos (isL_list _)]
        show objL [numC 2, listC (o.parents.map textC), numC o.stamp, textC o.note, textC o.root] = _
        rw [objL, if_pos ⟨rfl, rfl⟩]
      rw [e]
      unfold commitD
      rw [if_pos ⟨isL_list _, rfl, rfl, rfl⟩]
      show (strsD (o.parents.map textC)).map _ = _
      rw [strsD_C]
      obtain ⟨knd, lab, rws, kds, prs, stp, nte, rot⟩ := o
      have p1 := p.rows; have p2 := p.kids; have p3 := p.label
      simp only at p1 p2 p3 hk2
      subst p1; subst p2; subst p3; subst hk2
      rfl
    · cases h
/-! ### Bytes -/
theorem byL_data (l : List UInt8) : (byL l).data.toList = l := by simp [byL]
theorem byL_size (l : List UInt8) : (byL l).size = l.length := by rw [Lib.size_eq, byL_data]
theorem byL_of (s : ByteArray) : byL s.data.toList = s := by simp [byL]
theorem take_back {x : S38} (hok : okS 16 x = true) (hw : wfS x) : takeR (byL (encS x)) = (x, 0) := by
  have hcut : cut (byL (encS x)) 0 (encS x).length = encS x := by unfold cut; rw [byL_data, List.drop_zero, List.take_length]
  have h := placed_any (byL (encS x)) 16 0 x hok hw hcut (by rw [byL_size]; omega)
  have hn : nextR (byL (encS x)) 0 = (x, (encS x).length, 0) := by
    have := nextR_ok (s := byL (encS x)) (p := 0) (Nat.zero_le _) h
    rw [Nat.zero_add] at this
    exact this
  unfold takeR
  rw [hn]
  simp only
  rw [if_neg (by decide), if_neg (by rw [byL_size]; omega)]
theorem take_got {s : ByteArray} (hs : s.size ≤ 140737488355328) (h : (takeR s).2 = 0) : wfS (takeR s).1 ∧ okS 16 (takeR s).1 = true ∧ byL (encS (takeR s).1) = s := by
  unfold takeR at h ⊢
  by_cases hf : (nextR s 0).2.2 ≠ 0
  · rw [if_pos hf] at h; exact absurd h hf
  · rw [if_neg hf] at h ⊢
    by_cases hto : (nextR s 0).2.1 < s.size
    · rw [if_pos hto] at h; cases h
    · rw [if_neg hto] at h ⊢
      cases hc : cellD s 16 0 with
      | bad p' e =>
        have hb := nextR_bad (s := s) (p := 0) (Nat.zero_le _) hc
        have hb' : nextR s 0 = (z38, p', e) := hb
        rw [hb'] at hf
        have := cellD_bad s 16 0 p' e hc
        simp only at hf; omega
      | ok x q =>
        have g := cellD_got s hs 16 0 x q hc
        have hn : nextR s 0 = (x, q, 0) := nextR_ok (s := s) (p := 0) (Nat.zero_le _) hc
        rw [hn] at hto ⊢
        simp only at hto ⊢
        have hq : q = s.size := by have := g.le; omega
        refine ⟨g.wf, g.ok, ?_⟩
        have he := g.enc
        rw [hq, Nat.sub_zero] at he
        unfold cut at he
        rw [List.drop_zero, Lib.size_eq, List.take_length] at he
        rw [← he, byL_of]
theorem takeO_back {o : Ob} (h : okOb o = true) (hw : wfOb o) : takeO (bytesOf o) = (o, 0) := by
  have f := fine_ob h hw
  unfold takeO bytesOf
  rw [take_back f.ok f.wf]
  simp only
  rw [if_neg (by decide)]
  unfold takeC
  rw [obj_back h hw]
  simp only [h]
  rfl
theorem take_parts {s : ByteArray} (hs : s.size ≤ 1000000) (h : (takeR s).2 = 0) : parts (takeR s).1 ≤ 1000000 := by
  obtain ⟨hw, hk, hb⟩ := take_got (by omega) h
  have h1 := parts_enc 16 _ hk
  have h2 : (byL (encS (takeR s).1)).size = s.size := by rw [hb]
  rw [byL_size] at h2
  omega
end Go.Proofs.YtgjlchcfdbmmlaaGreatDoor.PObjectPuts
namespace Go.Proofs.YtgjlchcfdbmmlaaGreatDoor.PObjectPuts
open Go.RowKit Go.Proofs.YtgjlchcfdbmmlaaGreatDoor.Ord Go.Proofs.YtgjlchcfdbmmlaaGreatDoor.Obj Go.Proofs.YtgjlchcfdbmmlaaGreatDoorW.PrintWords Go.Proofs.YtgjlchcfdbmmlaaGreatDoorW.PrintLast Go.Proofs.YtgjlchcfdbmmlaaGreatDoorW.PrintMore

/-- Some bool is answered. -/
def AnyB (w : World) (e : Ending) (w' : World) : Prop := ∃ q : Bool, e = .returned (.bool q) ∧ Below w.heap.size w w'
set_option maxHeartbeats 8000000 in
set_option maxRecDepth 100000 in
theorem small_calls (o : Ob) (Ar : Option Addr) (cr : Nat) (Ak : Option Addr) (ck : Nat) (Ap : Option Addr) (cp : Nat) (w : World) (h : ObAt w o Ar cr Ak ck Ap cp) :
    Calls Tryz.prog 4 #[.agg (obV o Ar cr Ak ck Ap cp)] w (AnyB w) := by
  obtain ⟨W1, hW1⟩ : ∃ W1, W1 = w.alloc (.cells (obV o Ar cr Ak ck Ap cp) 27) := ⟨_, rfl⟩
  have hn1 : Below w.heap.size w W1 := by rw [hW1]; exact (Below.refl _ _).alloc (Nat.le_refl _) _
  have hg1 : W1.heap[w.heap.size]? = some (.cells (obV o Ar cr Ak ck Ap cp) 27 (0, 0)) := by rw [hW1]; exact alloc_lastV _ _
  have HO := Lib.hid (h.below hn1)
  have HN1 := Lib.hid hn1
  have HG := Lib.hid hg1
  have hmr := h.r.2.1
  have hmk := h.k.2.1
  have hmp := h.p.2.1
  clear h hn1
  unfold obV at hW1 hg1 HG ⊢
  obtain ⟨⟨b0, b1, b2, b3⟩, b4, b5, b6, b7⟩ := box8 hg1
  rw [hW1] at b0 b1 b2 b3 b4 b5 b6 b7
  have HW1 := Lib.hid hW1
  clear hW1 hg1
  obtain ⟨S, hS⟩ : ∃ S : Int, wrap64 (wrap64 ((o.label.size : Int) + (o.note.size : Int)) + (o.root.size : Int)) = S := ⟨_, rfl⟩
  by_cases h1 : 500 < S
  · go_enter Tryz.func4, Tryz.ntmps4
    go_wp2_with fail
    go_ret
    exact ⟨_, rfl, (Below.refl _ _).alloc (Nat.le_refl _) _⟩
  by_cases h2 : 80 < (o.rows.length : Int)
  · go_enter Tryz.func4, Tryz.ntmps4
    go_wp2_with fail
    go_ret
    exact ⟨_, rfl, (Below.refl _ _).alloc (Nat.le_refl _) _⟩
  by_cases h3 : 300 < (o.kids.length : Int)
  · go_enter Tryz.func4, Tryz.ntmps4
    go_wp2_with fail
    go_ret
    exact ⟨_, rfl, (Below.refl _ _).alloc (Nat.le_refl _) _⟩
  by_cases h4 : 10 < (o.parents.length : Int)
  · go_enter Tryz.func4, Tryz.ntmps4
    go_wp2_with fail
    go_ret
    exact ⟨_, rfl, (Below.refl _ _).alloc (Nat.le_refl _) _⟩
  go_enter Tryz.func4, Tryz.ntmps4
  go_wp2_with fail
  rw [← HW1.out]
  clear b0 b1 b2 b3 b4 b5 b6 b7 h1 h2 h3 h4 hS
  go_loopw [3] (fun v wr => ∃ i : Nat, v = .int .i64 (i : Int) ∧ i ≤ o.rows.length ∧ Below W1.heap.size W1 wr) (fun v _ => o.rows.length - (intOf v).toNat)
  case atStart => exact ⟨0, rfl, Nat.zero_le _, Below.refl _ _⟩
  case round =>
    obtain ⟨i, rfl, hi, hbe⟩ := hrel
    have HBE := Lib.hid hbe
    obtain ⟨⟨b0, b1, b2, b3⟩, b4, b5, b6, b7⟩ := box8 ((hbe.block _ (Array.getElem?_eq_some_iff.1 HG.out).1).trans HG.out)
    clear hbe
    by_cases hil : i < o.rows.length
    · obtain ⟨x, hx⟩ : ∃ x, o.rows[i]? = some x := ⟨_, List.getElem?_eq_getElem hil⟩
      obtain ⟨ad, rfl, c0, c1, c2, c3, c4, hbk⟩ := row_at (HO.out.below HBE.out).r hx
      clear hx
      by_cases hz : 200 < (x.f2.f2.size : Int)
      · go_wp2_with fail
        go_ret
        exact ⟨_, rfl, HN1.out.trans (HBE.out.mono HN1.out.size)⟩
      · go_wp2_with fail
        go_roundw
        case rel => exact ⟨i + 1, by go_num, hil, HBE.out⟩
        case measure => simp [intOf]; omega
    · go_wp2_with fail
      clear b0 b1 b2 b3 b4 b5 b6 b7 hil
      go_loopw [4] (fun v wz => ∃ i : Nat, v = .int .i64 (i : Int) ∧ i ≤ o.kids.length ∧ Below W1.heap.size W1 wz) (fun v _ => o.kids.length - (intOf v).toNat)
      case atStart => exact ⟨0, rfl, Nat.zero_le _, HBE.out⟩
      case round =>
        obtain ⟨j, rfl, hj, hbe⟩ := hrel
        have HBF := Lib.hid hbe
        obtain ⟨⟨b0, b1, b2, b3⟩, b4, b5, b6, b7⟩ := box8 ((hbe.block _ (Array.getElem?_eq_some_iff.1 HG.out).1).trans HG.out)
        clear hbe
        by_cases hil : j < o.kids.length
        · obtain ⟨x, hx⟩ : ∃ x, o.kids[j]? = some x := ⟨_, List.getElem?_eq_getElem hil⟩
          obtain ⟨ad, rfl, c0, c1, hbk⟩ := kid_at (HO.out.below HBF.out).k hx
          clear hx
          by_cases hz : 100 < (x.f1.size : Int)
          · go_wp2_with fail
            go_ret
            exact ⟨_, rfl, HN1.out.trans (HBF.out.mono HN1.out.size)⟩
          · go_wp2_with fail
            go_roundw
            case rel => exact ⟨j + 1, by go_num, hil, HBF.out⟩
            case measure => simp [intOf]; omega
        · go_wp2_with fail
          clear b0 b1 b2 b3 b4 b5 b6 b7 hil
          go_loopw [5] (fun v wy => ∃ i : Nat, v = .int .i64 (i : Int) ∧ i ≤ o.parents.length ∧ Below W1.heap.size W1 wy) (fun v _ => o.parents.length - (intOf v).toNat)
          case atStart => exact ⟨0, rfl, Nat.zero_le _, HBF.out⟩
          case round =>
            obtain ⟨p, rfl, hp, hbe⟩ := hrel
            have HBG := Lib.hid hbe
            obtain ⟨⟨b0, b1, b2, b3⟩, b4, b5, b6, b7⟩ := box8 ((hbe.block _ (Array.getElem?_eq_some_iff.1 HG.out).1).trans HG.out)
            clear hbe
            by_cases hil : p < o.parents.length
            · obtain ⟨x, hx⟩ : ∃ x, o.parents[p]? = some x := ⟨_, List.getElem?_eq_getElem hil⟩
              obtain ⟨ad, rfl, c0, hbk⟩ := str_at (HO.out.below HBG.out).p hx
              clear hx
              by_cases hz : 100 < (x.size : Int)
              · go_wp2_with fail
                go_ret
                exact ⟨_, rfl, HN1.out.trans (HBG.out.mono HN1.out.size)⟩
              · go_wp2_with fail
                go_roundw
                case rel => exact ⟨p + 1, by go_num, hil, HBG.out⟩
                case measure => simp [intOf]; omega
            · go_wp2_with fail
              go_ret
              exact ⟨_, rfl, HN1.out.trans (HBG.out.mono HN1.out.size)⟩
end Go.Proofs.YtgjlchcfdbmmlaaGreatDoor.PObjectPuts
namespace Go.Proofs.YtgjlchcfdbmmlaaGreatDoor.PObjectPuts
open Go.RowKit Go.Proofs.YtgjlchcfdbmmlaaGreatDoor.Ord Go.Proofs.YtgjlchcfdbmmlaaGreatDoor.Obj Go.Proofs.YtgjlchcfdbmmlaaGreatDoorW.PrintWords Go.Proofs.YtgjlchcfdbmmlaaGreatDoorW.PrintLast Go.Proofs.YtgjlchcfdbmmlaaGreatDoorW.PrintMore
attribute [local irreducible] OpGives

/-- The document's example. -/
def nodeZ : Ob := ⟨1, ⟨#[]⟩, [], [], [], 0, ⟨#[]⟩, ⟨#[]⟩⟩
def exB : ByteArray := ⟨#[65, 4, 17, 1, 48, 64, 64]⟩
theorem nodeZ_ok : okOb nodeZ = true := by decide
theorem nodeZ_wf : wfOb nodeZ := ⟨⟨by decide, by decide⟩, fun x hx => (by cases hx), fun x hx => (by cases hx)⟩
theorem bes_0 : bes 0 = [] := bes_zero
theorem bes_1 : bes 1 = [1] := by rw [bes_pos (by decide), show 1 / 256 = 0 from rfl, bes_0]; rfl
theorem bes_4 : bes 4 = [4] := by rw [bes_pos (by decide), show 4 / 256 = 0 from rfl, bes_0]; rfl
theorem nodeZ_bytes : bytesOf nodeZ = exB := by
  have h : encS (cellOf nodeZ) = [65, 4, 17, 1, 48, 64, 64] := by
    show encS ⟨3, 0, ⟨#[]⟩, [⟨1, 1, ⟨#[]⟩, []⟩, ⟨2, 0, ⟨#[]⟩, []⟩, ⟨3, 0, ⟨#[]⟩, []⟩, ⟨3, 0, ⟨#[]⟩, []⟩]⟩ = _
    have e0 : encS ⟨3, 0, ⟨#[]⟩, []⟩ = [64] := by rw [encS_list, encL]; unfold headB; rw [show ([] : List S38).length = 0 from rfl, bes_0]; rfl
    have e1 : encS ⟨1, 1, ⟨#[]⟩, []⟩ = [17, 1] := by rw [encS_num, if_neg (by decide)]; unfold headB; rw [show (1 : Int).toNat = 1 from rfl, bes_1]; rfl
    have e2 : encS ⟨2, 0, ⟨#[]⟩, []⟩ = [48] := by rw [encS_text]; unfold headB; rw [show (ByteArray.mk #[]).size = 0 from rfl, bes_0]; rfl
    rw [encS_list, encL, encL, encL, encL, encL, e0, e1, e2]
    unfold headB
    rw [show ([⟨1, 1, ⟨#[]⟩, []⟩, ⟨2, 0, ⟨#[]⟩, []⟩, ⟨3, 0, ⟨#[]⟩, []⟩, ⟨3, 0, ⟨#[]⟩, []⟩] : List S38).length = 4 from rfl, bes_4]
    rfl
  unfold bytesOf
  rw [h]; rfl
theorem exB_take : takeO exB = (nodeZ, 0) := by rw [← nodeZ_bytes]; exact takeO_back nodeZ_ok nodeZ_wf
set_option maxHeartbeats 8000000 in
set_option maxRecDepth 100000 in
theorem lives_calls (w : World) (hT : Lib.Utf8Tabs 0 1 w) : Calls Tryz.prog 5 #[] w fun e w' => e = .returned (.bool true) ∧ Below w.heap.size w w' := by
  have hzat : ∀ W, ObAt W nodeZ none 0 none 0 none 0 := fun W => ⟨Kd.C_nil _ _, Nat.le_refl _, Kd.C_nil _ _, Nat.le_refl _, Kd.C_nil _ _, Nat.le_refl _⟩
  have HP := Lib.hid (oput_calls nodeZ none 0 none 0 none 0 w (hzat w) nodeZ_wf hT)
  have hputs : putS nodeZ = exB := by unfold putS; rw [if_pos nodeZ_ok, nodeZ_bytes]
  have herr : errO (okOb nodeZ) = 0 := by rw [nodeZ_ok]; rfl
  rw [hputs, herr] at HP
  have hids : (idS nodeZ).size = 32 := by unfold idS; rw [if_pos nodeZ_ok, byL_size]; exact Sha.sum_len _
  have HTK := Lib.hid (fun W (h : Below w.heap.size w W) => otake_calls exB W (by decide) (fun h0 => take_parts (by decide) h0) (Utf8Tabs_below hT h))
  rw [exB_take] at HTK
  have HID := Lib.hid (fun W (h : Below w.heap.size w W) Ar cr Ak ck Ap cp (ho : ObAt W nodeZ Ar cr Ak ck Ap cp) => oid_calls nodeZ Ar cr Ak ck Ap cp W ho nodeZ_wf (Utf8Tabs_below hT h))
  rw [herr] at HID
  have HSM := Lib.hid (fun W Ar cr Ak ck Ap cp (ho : ObAt W nodeZ Ar cr Ak ck Ap cp) => same07_calls nodeZ Ar cr Ak ck Ap cp none 0 none 0 none 0 W ho (hzat W))
  generalize idS nodeZ = idv at hids HID
  have h32 : ((idv.size : Int) == 32) = true := by rw [hids]; rfl
  clear hputs herr hzat hT hids
  unfold obV nodeZ at HP HID HSM
  unfold exB at HP HTK
  unfold TakeOPost at HTK
  have hob := fun W (h : Below w.heap.size w W) => (HTK.out W h)
  unfold obV nodeZ at hob
  simp only at hob HP HID HSM
  have HTK2 := Lib.hid hob
  clear hob HTK
  go_enter Tryz.func5, Tryz.ntmps5
  go_wp2_with fail
  refine HP.out.mono ?_
  rintro e W1 ⟨rfl, hb1⟩
  have HB1 := Lib.hid hb1
  clear hb1 HP
  go_wp2_with fail
  refine (HTK2.out W1 HB1.out).mono ?_
  rintro e W2 ⟨Ar, cr, Ak, ck, Ap, cp, rfl, hO, hb2⟩
  have hb2w := HB1.out.trans (hb2.mono HB1.out.size)
  obtain ⟨W3, hW3⟩ : ∃ W3, W3 = W2.alloc (.cells #[.int .i64 1, .string (⟨#[]⟩ : ByteArray), .slice Ar 0 cr, .slice Ak 0 ck, .slice Ap 0 cp, .int .i64 0, .string (⟨#[]⟩ : ByteArray), .string (⟨#[]⟩ : ByteArray)] 27) := ⟨_, rfl⟩
  have hn3 : Below W2.heap.size W2 W3 := by rw [hW3]; exact (Below.refl _ _).alloc (Nat.le_refl _) _
  have hg3 : W3.heap[W2.heap.size]? = some (.cells #[.int .i64 1, .string (⟨#[]⟩ : ByteArray), .slice Ar 0 cr, .slice Ak 0 ck, .slice Ap 0 cp, .int .i64 0, .string (⟨#[]⟩ : ByteArray), .string (⟨#[]⟩ : ByteArray)] 27 (0, 0)) := by rw [hW3]; exact alloc_lastV _ _
  obtain ⟨⟨y0, y1, y2, y3⟩, y4, y5, y6, y7⟩ := box8 hg3
  have HB3 := Lib.hid (hb2w.trans (hn3.mono hb2w.size))
  have HO3 := Lib.hid (hO.at_.below hn3)
  have HG3 := Lib.hid hg3
  rw [hW3] at y0 y1 y2 y3 y4 y5 y6 y7
  have HW3 := Lib.hid hW3
  clear hb2 hb2w hn3 hg3 hO hW3
  go_wp2_with fail
  rw [← HW3.out]
  clear y0 y1 y2 y3 y4 y5 y6 y7
  refine (HID.out W3 HB3.out Ar cr Ak ck Ap cp HO3.out).mono ?_
  rintro e W4 ⟨rfl, hb4⟩
  have hg4 := (hb4.block _ (Array.getElem?_eq_some_iff.1 HG3.out).1).trans HG3.out
  obtain ⟨⟨y0, y1, y2, y3⟩, y4, y5, y6, y7⟩ := box8 hg4
  have HB4 := Lib.hid (HB3.out.trans (hb4.mono HB3.out.size))
  have HO4 := Lib.hid (HO3.out.below hb4)
  clear hb4 hg4
  go_wp2_with fail
  refine (HSM.out W4 Ar cr Ak ck Ap cp HO4.out).mono ?_
  rintro e W5 ⟨rfl, hb5⟩
  have hfin := HB4.out.trans (hb5.mono HB4.out.size)
  go_wp2_with fail
  go_ret
  exact ⟨rfl, hfin⟩
end Go.Proofs.YtgjlchcfdbmmlaaGreatDoor.PObjectPuts
namespace Go.Proofs.YtgjlchcfdbmmlaaGreatDoor.PObjectPuts
open Go.RowKit Go.Proofs.YtgjlchcfdbmmlaaGreatDoorW.PrintWords Go.Proofs.YtgjlchcfdbmmlaaGreatDoorW.PrintLast Go.Proofs.YtgjlchcfdbmmlaaGreatDoorW.PrintMore
open Go.ChangeShapes Go.WideShapes

theorem choose_row {α : Type} (P : Nat → α → Prop) : ∀ n, (∀ i, i < n → ∃ v, P i v) → ∃ l : List α, l.length = n ∧ ∀ i v, l[i]? = some v → P i v
  | 0, _ => ⟨[], rfl, fun i v h => by simp at h⟩
  | n + 1, h => by
    obtain ⟨l, hl, hp⟩ := choose_row P n (fun i hi => h i (by omega))
    obtain ⟨v, hv⟩ := h n (by omega)
    refine ⟨l ++ [v], by simp [hl], fun i u hu => ?_⟩
    rcases Nat.lt_or_ge i l.length with hlt | hge
    · rw [List.getElem?_append_left hlt] at hu; exact hp i u hu
    · rw [List.getElem?_append_right hge] at hu
      have hi : i - l.length = 0 := by
        rcases Nat.eq_zero_or_pos (i - l.length) with e | e
        · exact e
        · rw [List.getElem?_eq_none (by simp; omega)] at hu; cases hu
      rw [hi] at hu
      simp at hu
      subst hu
      have : i = n := by omega
      rw [this]; exact hv
section
variable {H : Type} {enc : TypeId × Value → H} {W : World} {held : Bool}
theorem cells_one : Tryz.prog.cellsOf 3 = 1 ∧ Tryz.prog.cellsOf 9 = 1 ∧ Tryz.prog.cellsOf 36 = 1 := ⟨by kernel_rfl, by kernel_rfl, by kernel_rfl⟩
end
end Go.Proofs.YtgjlchcfdbmmlaaGreatDoor.PObjectPuts
namespace Go.Proofs.YtgjlchcfdbmmlaaGreatDoor.PObjectPuts
open Go.RowKit Go.Proofs.YtgjlchcfdbmmlaaGreatDoor.Ord Go.Proofs.YtgjlchcfdbmmlaaGreatDoor.Obj Go.Proofs.YtgjlchcfdbmmlaaGreatDoorW.PrintWords Go.Proofs.YtgjlchcfdbmmlaaGreatDoorW.PrintLast Go.Proofs.YtgjlchcfdbmmlaaGreatDoorW.PrintMore
open Go.ChangeShapes Go.WideShapes

section
variable {H : Type} {enc : TypeId × Value → H} {W : World} {held : Bool}
theorem open_sl {α : Type} (d : Kd α) (P : α → Prop) (t e : TypeId) (hu : Tryz.prog.underlying t = some (.slice e)) (hsz : Tryz.prog.cellsOf e = d.sz) {fuel : Nat}
    (hel : ∀ cs (x : DataW H × List MemPlace), DataW.trod enc Tryz.prog W 0 (fun _ => true) held fuel e cs = some x → cs.length = d.sz → ∃ y, d.K W y cs ∧ P y) {cs : List Value} {x : DataW H × List MemPlace}
    (h : DataW.trod enc Tryz.prog W 0 (fun _ => true) held (fuel + 1) t cs = some x) : ∃ l A c, cs = [.slice A (l : List α).length c] ∧ l.length ≤ c ∧ d.C W A l.length l ∧ ∀ y ∈ l, P y := by
  rcases DataW.trod_slice hu h with ⟨rfl, _⟩ | ⟨a, len, cap, elems, rest, n, hn, rfl, _, _, hl, hm, hlen, hels, _, _⟩
  · exact ⟨[], none, 0, rfl, Nat.le_refl _, Kd.C_nil _ _, fun y hy => by cases hy⟩
  · injection hn with hn
    subst hn
    rw [hsz] at hels
    obtain ⟨l, hll, hlp⟩ := choose_row (fun i y => ∃ c, c.length = d.sz ∧ d.K W y c ∧ P y ∧ ∀ j u, c[j]? = some u → W.cell? (a.add (i * d.sz + j)) = some u) len (fun i hi => by
      have he := hels i hi
      rw [List.getElem?_eq_getElem (by omega)] at he
      obtain ⟨cs', hc, ht⟩ := Option.bind_eq_some_iff.1 he
      obtain ⟨_, hcl, hat⟩ := World.cells?_some hc
      obtain ⟨y, hy, hp⟩ := hel cs' _ ht hcl
      refine ⟨y, cs', hcl, hy, hp, fun j u hu => ?_⟩
      have hj : j < d.sz := by rw [← hcl]; exact (List.getElem?_eq_some_iff.1 hu).1
      have := hat j hj
      rw [hu] at this
      rw [← this, Go.Deep.add_add])
    refine ⟨l, some a, cap, by rw [hll], by omega, ⟨rfl, by unfold maxLen at hm; omega, fun _ => ⟨a, rfl, fun j p hj => ?_⟩⟩, fun y hy => ?_⟩
    · obtain ⟨c, h1, h2, _, h3⟩ := hlp j p hj
      exact ⟨c, h1, h2, h3⟩
    · obtain ⟨i, hi⟩ := List.getElem?_of_mem hy
      obtain ⟨c, _, _, hp, _⟩ := hlp i y hi
      exact hp
end
end Go.Proofs.YtgjlchcfdbmmlaaGreatDoor.PObjectPuts
