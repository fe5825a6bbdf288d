/- Texts of one proof, joined: TOK. -/
import Derived.Test.YtgjlchcfdbmmlaaDoorROhg
import Derived.Test.YtgjlchcfdbmmlaaDoorRDg
set_option linter.unusedSimpArgs false
set_option linter.unusedVariables false
/- object.Check, Put, Id, PutRows walked. -/
namespace Go.Proofs.YtgjlchcfdbmmlaaDoor.PObjectTakes
open Go.RowKit Go.Proofs.YtgjlchcfdbmmlaaDoor.Ord Go.Proofs.YtgjlchcfdbmmlaaDoor.Obj Go.Proofs.YtgjlchcfdbmmlaaDoorW.PrintWords Go.Proofs.YtgjlchcfdbmmlaaDoorW.PrintLast Go.Proofs.YtgjlchcfdbmmlaaDoorW.PrintMore
set_option linter.unusedVariables false
set_option linter.unusedSimpArgs false
attribute [local irreducible] OpGives

def byL (l : List UInt8) : ByteArray := ⟨l.toArray⟩
/-- The bytes of a right object. -/
def bytesOf (o : Ob) : ByteArray := byL (encS (cellOf o))
def putS (o : Ob) : ByteArray := if okOb o then bytesOf o else ⟨#[]⟩
def idS (o : Ob) : ByteArray := if okOb o then byL (Sha.sum (encS (cellOf o))) else ⟨#[]⟩
def errO (b : Bool) : Int := if b then 0 else 2
set_option maxHeartbeats 8000000 in
set_option maxRecDepth 100000 in
theorem ocheck_calls (o : Ob) (Ar : Option Addr) (cr : Nat) (Ak : Option Addr) (ck : Nat) (Ap : Option Addr) (cp : Nat) (w : World) (hO : ObAt w o Ar cr Ak ck Ap cp) (hT : Lib.Utf8Tabs 0 1 w) :
    Calls Tryd.prog 13 #[.agg (obV o Ar cr Ak ck Ap cp)] w fun e w' => e = .returned (.int .i64 (errO (okOb o))) ∧ Below w.heap.size w w' := by
  obtain ⟨W1, hW1⟩ : ∃ W1, W1 = w.alloc (.cells (obV o Ar cr Ak ck Ap cp) 27) := ⟨_, rfl⟩
  have hn1 : Below w.heap.size w W1 := by rw [hW1]; exact (Below.refl _ _).alloc (Nat.le_refl _) _
  have hg1 : W1.heap[w.heap.size]? = some (.cells (obV o Ar cr Ak ck Ap cp) 27 (0, 0)) := by rw [hW1]; exact alloc_lastV _ _
  unfold obV at hg1
  obtain ⟨⟨b0, b1, b2, b3⟩, b4, b5, b6, b7⟩ := box8 hg1
  have HF := Lib.hid (formed_calls o Ar cr Ak ck Ap cp W1 (hO.below hn1) (Utf8Tabs_below hT hn1))
  have HN1 := Lib.hid hn1
  unfold formV at HF
  unfold obV at hW1 HF ⊢
  rw [hW1] at b0 b1 b2 b3 b4 b5 b6 b7
  have HW1 := Lib.hid hW1
  generalize okOb o = ok at HF ⊢
  clear hW1 hn1 hg1 hO hT
  cases ok with
  | false =>
    go_enter Tryd.func13, Tryd.ntmps13
    go_wp2_with fail
    rw [← HW1.out]
    refine HF.out.mono ?_
    rintro e W2 ⟨rfl, hb2⟩
    have hfin := HN1.out.trans (hb2.mono HN1.out.size)
    go_wp2_with fail
    go_ret
    exact ⟨rfl, hfin⟩
  | true =>
    by_cases hk : o.kind = 1
    · rw [if_pos hk] at HF
      have HK := Lib.hid hk
      clear hk
      go_enter Tryd.func13, Tryd.ntmps13
      go_wp2_with fail
      rw [← HW1.out]
      refine HF.out.mono ?_
      rintro e W2 ⟨rfl, hb2⟩
      have hfin := HN1.out.trans (hb2.mono HN1.out.size)
      go_wp2_with fail
      go_ret
      exact ⟨rfl, hfin⟩
    · rw [if_neg hk] at HF
      have HK := Lib.hid hk
      clear hk
      go_enter Tryd.func13, Tryd.ntmps13
      go_wp2_with fail
      rw [← HW1.out]
      refine HF.out.mono ?_
      rintro e W2 ⟨rfl, hb2⟩
      have hfin := HN1.out.trans (hb2.mono HN1.out.size)
      go_wp2_with fail
      go_ret
      exact ⟨rfl, hfin⟩
set_option maxHeartbeats 8000000 in
set_option maxRecDepth 100000 in
theorem oput_calls (o : Ob) (Ar : Option Addr) (cr : Nat) (Ak : Option Addr) (ck : Nat) (Ap : Option Addr) (cp : Nat) (w : World) (hO : ObAt w o Ar cr Ak ck Ap cp) (hw : wfOb o) (hT : Lib.Utf8Tabs 0 1 w) :
    Calls Tryd.prog 8 #[.agg (obV o Ar cr Ak ck Ap cp)] w fun e w' => e = .returned (.tuple #[.string (putS o), .int .i64 (errO (okOb o))]) ∧ Below w.heap.size w w' := by
  obtain ⟨W1, hW1⟩ : ∃ W1, W1 = w.alloc (.cells (obV o Ar cr Ak ck Ap cp) 27) := ⟨_, rfl⟩
  have hn1 : Below w.heap.size w W1 := by rw [hW1]; exact (Below.refl _ _).alloc (Nat.le_refl _) _
  have hg1 : W1.heap[w.heap.size]? = some (.cells (obV o Ar cr Ak ck Ap cp) 27 (0, 0)) := by rw [hW1]; exact alloc_lastV _ _
  unfold obV at hg1
  obtain ⟨⟨b0, b1, b2, b3⟩, b4, b5, b6, b7⟩ := box8 hg1
  have HF := Lib.hid (formed_calls o Ar cr Ak ck Ap cp W1 (hO.below hn1) (Utf8Tabs_below hT hn1))
  have HN1 := Lib.hid hn1
  have HO := Lib.hid (hO.below hn1)
  unfold putS
  unfold formV at HF
  have hnode : okOb o = true → o.kind = 1 → ∀ W, Below W1.heap.size W1 W → Calls Tryd.prog 107 #[.agg (obV o Ar cr Ak ck Ap cp)] W (CellPostR W.heap.size (cellOf o) W) := fun h hk W hb => by
    have hn : okNode o = true := by unfold okOb at h; rwa [if_pos hk] at h
    have p := okNode_parts hn
    unfold cellOf; rw [if_pos hk]
    exact ncell_calls o Ar cr Ak ck Ap cp W (HO.out.below hb) (by have := (okRows_parts p.rows).1; omega) (by have := kids_len p.kids hw.kids; omega) hw.kids
  have hcom : okOb o = true → ¬ o.kind = 1 → ∀ W, Below W1.heap.size W1 W → Calls Tryd.prog 109 #[.agg (obV o Ar cr Ak ck Ap cp)] W (CellPostR W.heap.size (cellOf o) W) := fun h hk W hb => by
    have hn : okCommit o = true := by
      unfold okOb at h; rw [if_neg hk] at h
      split at h
      · exact h
      · cases h
    have p := okCommit_parts hn
    unfold cellOf; rw [if_neg hk]
    exact ccell_calls o Ar cr Ak ck Ap cp W (HO.out.below hb) (by have := p.len; omega)
  have hfine : okOb o = true → Fine 16 5000 (cellOf o) := fun h => fine_ob h hw
  have HNODE := Lib.hid hnode
  have HCOM := Lib.hid hcom
  have HFINE := Lib.hid hfine
  unfold bytesOf
  unfold obV at hW1 HF HNODE HCOM ⊢
  rw [hW1] at b0 b1 b2 b3 b4 b5 b6 b7
  have HW1 := Lib.hid hW1
  have hput : okOb o = true → ∀ u W, cellF W1.heap.size (cellOf o) u W → Calls Tryd.prog 20 #[u] W fun e w' => e = .returned (.tuple #[.string (byL (encS (cellOf o))), .int .i64 0]) ∧ Below W.heap.size W w' := fun h u W hu => by
    obtain ⟨v3, rfl, hr⟩ := hu
    obtain ⟨A, c, rfl, hlc, hC⟩ := Kd.R_reads hr
    obtain ⟨k, hk⟩ := (HFINE.out h).check
    have hen := (HFINE.out h).enc
    exact Put_calls k (cellOf o) A c 0 W hC hlc (HFINE.out h).wf hk (fun _ => by omega)
  have HPUT := Lib.hid hput
  generalize okOb o = ok at *
  clear hW1 hn1 hg1 hO hT hnode hcom hfine hput
  cases ok with
  | false =>
    clear HNODE HCOM HFINE HPUT
    go_enter Tryd.func8, Tryd.ntmps8
    go_wp2_with fail
    rw [← HW1.out]
    refine HF.out.mono ?_
    rintro e W2 ⟨rfl, hb2⟩
    have hfin := HN1.out.trans (hb2.mono HN1.out.size)
    go_wp2_with fail
    go_ret2
    exact ⟨rfl, hfin⟩
  | true =>
    by_cases hk : o.kind = 1
    · rw [if_pos hk] at HF
      have HK := Lib.hid hk
      clear hk
      go_enter Tryd.func8, Tryd.ntmps8
      go_wp2_with fail
      rw [← HW1.out]
      refine HF.out.mono ?_
      rintro e W2 ⟨rfl, hb2⟩
      have HB2 := Lib.hid hb2
      have HFIN := Lib.hid (HN1.out.trans (hb2.mono HN1.out.size))
      clear hb2
      go_wp2_with fail
      refine (HNODE.out (by first | rfl | trivial) HK.out W2 HB2.out).mono ?_
      rintro e W3 ⟨u, rfl, hu, hb3⟩
      have HP := Lib.hid (HPUT.out (by first | rfl | trivial) u W3 (cellF_lower hu HB2.out.size))
      have HFIN3 := Lib.hid (HFIN.out.trans (hb3.mono HFIN.out.size))
      clear hb3 hu
      go_wp2_with fail
      refine HP.out.mono ?_
      rintro e W4 ⟨rfl, hb4⟩
      have hfin := HFIN3.out.trans (hb4.mono HFIN3.out.size)
      go_wp2_with fail
      go_ret2
      exact ⟨rfl, hfin⟩
    · rw [if_neg hk] at HF
      have HK := Lib.hid hk
      clear hk
      go_enter Tryd.func8, Tryd.ntmps8
      go_wp2_with fail
      rw [← HW1.out]
      refine HF.out.mono ?_
      rintro e W2 ⟨rfl, hb2⟩
      have HB2 := Lib.hid hb2
      have HFIN := Lib.hid (HN1.out.trans (hb2.mono HN1.out.size))
      clear hb2
      go_wp2_with fail
      refine (HCOM.out (by first | rfl | trivial) HK.out W2 HB2.out).mono ?_
      rintro e W3 ⟨u, rfl, hu, hb3⟩
      have HP := Lib.hid (HPUT.out (by first | rfl | trivial) u W3 (cellF_lower hu HB2.out.size))
      have HFIN3 := Lib.hid (HFIN.out.trans (hb3.mono HFIN.out.size))
      clear hb3 hu
      go_wp2_with fail
      refine HP.out.mono ?_
      rintro e W4 ⟨rfl, hb4⟩
      have hfin := HFIN3.out.trans (hb4.mono HFIN3.out.size)
      go_wp2_with fail
      go_ret2
      exact ⟨rfl, hfin⟩
set_option maxHeartbeats 8000000 in
set_option maxRecDepth 100000 in
theorem oid_calls (o : Ob) (Ar : Option Addr) (cr : Nat) (Ak : Option Addr) (ck : Nat) (Ap : Option Addr) (cp : Nat) (w : World) (hO : ObAt w o Ar cr Ak ck Ap cp) (hw : wfOb o) (hT : Lib.Utf8Tabs 0 1 w) :
    Calls Tryd.prog 10 #[.agg (obV o Ar cr Ak ck Ap cp)] w fun e w' => e = .returned (.tuple #[.string (idS o), .int .i64 (errO (okOb o))]) ∧ Below w.heap.size w w' := by
  obtain ⟨W1, hW1⟩ : ∃ W1, W1 = w.alloc (.cells (obV o Ar cr Ak ck Ap cp) 27) := ⟨_, rfl⟩
  have hn1 : Below w.heap.size w W1 := by rw [hW1]; exact (Below.refl _ _).alloc (Nat.le_refl _) _
  have hg1 : W1.heap[w.heap.size]? = some (.cells (obV o Ar cr Ak ck Ap cp) 27 (0, 0)) := by rw [hW1]; exact alloc_lastV _ _
  unfold obV at hg1
  obtain ⟨⟨b0, b1, b2, b3⟩, b4, b5, b6, b7⟩ := box8 hg1
  have HP := Lib.hid (oput_calls o Ar cr Ak ck Ap cp W1 (hO.below hn1) hw (Utf8Tabs_below hT hn1))
  have HN1 := Lib.hid hn1
  have hsum : okOb o = true → ∀ W, Calls Tryd.prog 12 #[.string (bytesOf o)] W fun e w' => e = .returned (.string (byL (Sha.sum (encS (cellOf o))))) ∧ Below W.heap.size W w' := fun h W => by
    have he := (fine_ob h hw).enc
    have hd : (bytesOf o).data.toList = encS (cellOf o) := rfl
    have := Dig.sum_any (bytesOf o) (by rw [Lib.size_eq, hd]; omega) W
    rw [hd] at this
    exact this
  have HSUM := Lib.hid hsum
  unfold idS
  unfold putS at HP
  unfold obV at hW1 HP ⊢
  rw [hW1] at b0 b1 b2 b3 b4 b5 b6 b7
  have HW1 := Lib.hid hW1
  generalize okOb o = ok at *
  clear hW1 hn1 hg1 hO hT hw hsum
  cases ok with
  | false =>
    clear HSUM
    go_enter Tryd.func10, Tryd.ntmps10
    go_wp2_with fail
    rw [← HW1.out]
    refine HP.out.mono ?_
    rintro e W2 ⟨rfl, hb2⟩
    have hfin := HN1.out.trans (hb2.mono HN1.out.size)
    go_wp2_with fail
    go_ret2
    exact ⟨rfl, hfin⟩
  | true =>
    go_enter Tryd.func10, Tryd.ntmps10
    go_wp2_with fail
    rw [← HW1.out]
    refine HP.out.mono ?_
    rintro e W2 ⟨rfl, hb2⟩
    have hfin := HN1.out.trans (hb2.mono HN1.out.size)
    have HFIN := Lib.hid hfin
    clear hfin hb2
    go_wp2_with fail
    refine (HSUM.out (by first | rfl | trivial) W2).mono ?_
    rintro e W3 ⟨rfl, hb3⟩
    have hfin := HFIN.out.trans (hb3.mono HFIN.out.size)
    go_wp2_with fail
    go_ret2
    exact ⟨rfl, hfin⟩
theorem results_pr (tmps : Array Value) (w : World) (c : Nat) (a0 a1 a2 a3 : Value) (h2 : tmps.getD 2 undef = .pointer (some ⟨c, 0, none⟩))
    (hc : w.heap[c]? = some (.cells #[a0, a1, a2, a3] 42 (0, 0))) :
    (results Tryd.f18 tmps).run Tryd.prog w = .ok (.tuple #[.agg #[a0, a1, a2, a3], tmps.getD 3 undef]) w := by
  have h2' : tmps[2]?.getD undef = .pointer (some ⟨c, 0, none⟩) := by simpa using h2
  have k0 : w.cell? ⟨c, 0, none⟩ = some a0 := by rw [Lib.cell_of_heap hc]; rfl
  have k1 : w.cell? ⟨c, 1, none⟩ = some a1 := by rw [Lib.cell_of_heap hc]; rfl
  have k2 : w.cell? ⟨c, 2, none⟩ = some a2 := by rw [Lib.cell_of_heap hc]; rfl
  have k3 : w.cell? ⟨c, 3, none⟩ = some a3 := by rw [Lib.cell_of_heap hc]; rfl
  simp [results, Tryd.results18, h2', asAddr, k0, k1, k2, k3, go_sem]
def rowsR (l : List S55) : S42 := if okRows l then rowsC l else z42
set_option maxHeartbeats 8000000 in
set_option maxRecDepth 100000 in
theorem putrows_calls (l : List S55) (A : Option Addr) (c : Nat) (w : World) (hA : Kd.C k55 w A l.length l) (hc : l.length ≤ c) (hT : Lib.Utf8Tabs 0 1 w) :
    Calls Tryd.prog 18 #[.slice A l.length c] w fun e w' => ∃ u, e = .returned (.tuple #[u, .int .i64 (errO (okRows l))]) ∧ cellF w.heap.size (rowsR l) u w' ∧ Below w.heap.size w w' := by
  obtain ⟨W1, hW1⟩ : ∃ W1, W1 = w.alloc (.cells #[.int .i64 0, .int .i64 0, .string (⟨#[]⟩ : ByteArray), .slice none 0 0] 42) := ⟨_, rfl⟩
  have hn1 : Below w.heap.size w W1 := by rw [hW1]; exact (Below.refl _ _).alloc (Nat.le_refl _) _
  have hg1 : W1.heap[w.heap.size]? = some (.cells #[.int .i64 0, .int .i64 0, .string (⟨#[]⟩ : ByteArray), .slice none 0 0] 42 (0, 0)) := by rw [hW1]; exact alloc_lastV _ _
  have hs1 : W1.heap.size = w.heap.size + 1 := by rw [hW1]; simp
  have HS := Lib.hid (scheck_calls l A c W1 (Kd.C_below hA hn1) hc (Utf8Tabs_below hT hn1))
  have HN1 := Lib.hid hn1
  have HG1 := Lib.hid hg1
  have HS1 := Lib.hid hs1
  have HA := Lib.hid (Kd.C_below hA hn1)
  have HW1 := Lib.hid hW1
  unfold rowsR errO
  have hrl : okRows l = true → l.length ≤ 1000000 := fun h => by have := (okRows_parts h).1; omega
  have HRL := Lib.hid hrl
  generalize okRows l = ok at *
  clear hW1 hn1 hg1 hs1 hA hT hrl
  cases ok with
  | false =>
    go_enter Tryd.func18, Tryd.ntmps18
    go_wp2_with fail
    rw [← HW1.out]
    refine HS.out.mono ?_
    rintro e W2 ⟨rfl, hb2⟩
    have hg2 := (hb2.block _ (Array.getElem?_eq_some_iff.1 HG1.out).1).trans HG1.out
    have hbw : Below w.heap.size w W2 := HN1.out.trans (hb2.mono HN1.out.size)
    obtain ⟨⟨z0, z1, z2, z3⟩, f0, f1, f2, f3⟩ := box4 hg2
    have HG2 := Lib.hid hg2
    have HBW := Lib.hid hbw
    clear hg2 hbw hb2
    go_wp2_with fail
    refine bodyPost_ret (results_pr _ _ w.heap.size _ _ _ _ rfl (four_put HG2.out _ _ _ _)) rfl ?_
    exact ⟨_, rfl, ⟨_, rfl, Kd.R_nil _ _ _ _ _⟩, put4_below HBW.out _ _ _ _⟩
  | true =>
    go_enter Tryd.func18, Tryd.ntmps18
    go_wp2_with fail
    rw [← HW1.out]
    refine HS.out.mono ?_
    rintro e W2 ⟨rfl, hb2⟩
    have hg2 := (hb2.block _ (Array.getElem?_eq_some_iff.1 HG1.out).1).trans HG1.out
    have hbw : Below w.heap.size w W2 := HN1.out.trans (hb2.mono HN1.out.size)
    have HR := Lib.hid (rows_calls l A c W2 (Kd.C_below HA.out hb2) hc (HRL.out (by first | rfl | trivial)))
    have hs2 := hb2.size
    have HS2 := Lib.hid hs2
    have HG2 := Lib.hid hg2
    have HBW := Lib.hid hbw
    clear hg2 hbw hb2 hs2
    go_wp2_with fail
    refine HR.out.mono ?_
    rintro e W3 ⟨u, rfl, ⟨v3, rfl, hR3⟩, hb3⟩
    obtain ⟨A3, c3, rfl⟩ := R_slice hR3
    have hg3 := (hb3.block _ (Array.getElem?_eq_some_iff.1 HG2.out).1).trans HG2.out
    have hbw : Below w.heap.size w W3 := HBW.out.trans (hb3.mono HBW.out.size)
    obtain ⟨⟨z0, z1, z2, z3⟩, f0, f1, f2, f3⟩ := box4 hg3
    have HG3 := Lib.hid hg3
    have HBW3 := Lib.hid hbw
    have HR3 := Lib.hid hR3
    clear hg3 hbw hb3 hR3
    go_wp2_with fail
    refine bodyPost_ret (results_pr _ _ w.heap.size _ _ _ _ rfl (four_put HG3.out _ _ _ _)) rfl ?_
    exact ⟨_, rfl, ⟨_, rfl, rC_put HR3.out (by have := HS2.out; have := HS1.out; omega) (by have := HS2.out; have := HS1.out; omega) _ _ _ _⟩, put4_below HBW3.out _ _ _ _⟩
end Go.Proofs.YtgjlchcfdbmmlaaDoor.PObjectTakes
