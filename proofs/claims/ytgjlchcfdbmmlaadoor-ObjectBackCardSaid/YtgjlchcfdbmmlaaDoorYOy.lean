/- Texts of one proof, joined: TOY. -/
import Derived.Test.YtgjlchcfdbmmlaaDoorYOw
set_option linter.unusedSimpArgs false
set_option linter.unusedVariables false
/- ObjectBack, walked. -/
namespace Go.Proofs.YtgjlchcfdbmmlaaDoor.PObjectTakes
open Go.RowKit Go.Proofs.YtgjlchcfdbmmlaaDoor.Ord Go.Proofs.YtgjlchcfdbmmlaaDoor.Obj Go.Proofs.YtgjlchcfdbmmlaaDoorW.PrintWords Go.Proofs.YtgjlchcfdbmmlaaDoorW.PrintLast Go.Proofs.YtgjlchcfdbmmlaaDoorW.PrintMore
set_option linter.unusedVariables false
set_option linter.unusedSimpArgs false
attribute [local irreducible] OpGives

theorem zOb_at (W : World) : ObAt W zOb none 0 none 0 none 0 := ⟨Kd.C_nil _ _, Nat.le_refl _, Kd.C_nil _ _, Nat.le_refl _, Kd.C_nil _ _, Nat.le_refl _⟩
set_option maxHeartbeats 32000000 in
set_option maxRecDepth 100000 in
theorem objectBack_walk (o : Ob) (Ar : Option Addr) (cr : Nat) (Ak : Option Addr) (ck : Nat) (Ap : Option Addr) (cp : Nat) (s : ByteArray) (w : World) (hO : ObAt w o Ar cr Ak ck Ap cp) (hw : wfOb o) (hT : Lib.Utf8Tabs 0 1 w) :
    Calls Tryd.prog 3 #[.agg (obV o Ar cr Ak ck Ap cp), .string s] w fun e w' => e = .returned (.bool true) ∧ Below w.heap.size w w' := by
  obtain ⟨W1, hW1⟩ : ∃ W1, W1 = w.alloc (.cells (obV o Ar cr Ak ck Ap cp) 27) := ⟨_, rfl⟩
  have hn1 : Below w.heap.size w W1 := by rw [hW1]; exact (Below.refl _ _).alloc (Nat.le_refl _) _
  have hg1 : W1.heap[w.heap.size]? = some (.cells (obV o Ar cr Ak ck Ap cp) 27 (0, 0)) := by rw [hW1]; exact alloc_lastV _ _
  obtain ⟨q, hq⟩ := small_calls o Ar cr Ak ck Ap cp W1 (hO.below hn1)
  have HSMALL := Lib.hid hq
  have HN1 := Lib.hid hn1
  have HG1 := Lib.hid hg1
  have hL : ∀ W, Below w.heap.size w W → Calls Tryd.prog 7 #[] W fun e w' => e = .returned (.bool true) ∧ Below w.heap.size w w' := fun W h => (lives_calls W (Utf8Tabs_below hT h)).mono fun e w' ⟨he, hb⟩ => ⟨he, h.trans (hb.mono h.size)⟩
  have HL := Lib.hid hL
  have HPUT := Lib.hid (fun W (h : Below w.heap.size w W) => oput_calls o Ar cr Ak ck Ap cp W (hO.below h) hw (Utf8Tabs_below hT h))
  have HID := Lib.hid (fun W (h : Below w.heap.size w W) => oid_calls o Ar cr Ak ck Ap cp W (hO.below h) hw (Utf8Tabs_below hT h))
  have hok : okOb o = true → (takeO (bytesOf o) = (o, 0) ∧ (∀ W (h : Below w.heap.size w W), Calls Tryd.prog 9 #[.string (bytesOf o)] W (TakeOPost (o, 0) W)) ∧ ∀ W, Calls Tryd.prog 12 #[.string (bytesOf o)] W fun e w' => e = .returned (.string (byL (Sha.sum (encS (cellOf o))))) ∧ Below W.heap.size W w') := fun h => by
    have hb := takeO_back h hw
    have he := (fine_ob h hw).enc
    have hsz : (bytesOf o).size ≤ 600000 := by unfold bytesOf; rw [byL_size]; exact he
    refine ⟨hb, fun W hW => ?_, fun W => ?_⟩
    · have := otake_calls (bytesOf o) W (by omega) (fun h0 => take_parts (by omega) h0) (Utf8Tabs_below hT hW)
      rwa [hb] at this
    · have hd : (bytesOf o).data.toList = encS (cellOf o) := rfl
      have := Dig.sum_any (bytesOf o) (by omega) W
      rw [hd] at this
      exact this
  have HOK := Lib.hid hok
  have HSAME := Lib.hid (fun W (h : Below w.heap.size w W) Ar' cr' Ak' ck' Ap' cp' (h' : ObAt W o Ar' cr' Ak' ck' Ap' cp') => same07_calls o Ar cr Ak ck Ap cp Ar' cr' Ak' ck' Ap' cp' W (hO.below h) h')
  have HTAKE := Lib.hid (fun (hs : s.size ≤ 8000) W (h : Below w.heap.size w W) => otake_calls s W (by omega) (fun h0 => take_parts (by omega) h0) (Utf8Tabs_below hT h))
  have HPUTP := Lib.hid (fun p W (h : Below w.heap.size w W) (hwp : wfOb p) Ar' cr' Ak' ck' Ap' cp' (h' : ObAt W p Ar' cr' Ak' ck' Ap' cp') => oput_calls p Ar' cr' Ak' ck' Ap' cp' W h' hwp (Utf8Tabs_below hT h))
  have HCKP := Lib.hid (fun p W (h : Below w.heap.size w W) Ar' cr' Ak' ck' Ap' cp' (h' : ObAt W p Ar' cr' Ak' ck' Ap' cp') => ocheck_calls p Ar' cr' Ak' ck' Ap' cp' W h' (Utf8Tabs_below hT h))
  have HZS := Lib.hid (fun W Ar' cr' Ak' ck' Ap' cp' (h' : ObAt W zOb Ar' cr' Ak' ck' Ap' cp') => same07_calls zOb Ar' cr' Ak' ck' Ap' cp' none 0 none 0 none 0 W h' (zOb_at W))
  have hGOT : ∀ (hs : s.size ≤ 8000), ((takeO s).2 = 0 → okOb (takeO s).1 = true ∧ wfOb (takeO s).1 ∧ bytesOf (takeO s).1 = s) ∧ ((takeO s).2 ≠ 0 → (takeO s).1 = zOb) := fun hs => ⟨fun h => takeO_got (by omega) h, fun h => takeO_zero h⟩
  have HGOT := Lib.hid hGOT
  unfold putS at HPUT
  unfold idS at HID
  generalize okOb o = ok at HPUT HID HOK
  have hg1' := hg1
  unfold obV at hg1' hW1 HSMALL HPUT HID HSAME ⊢
  obtain ⟨⟨b0, b1, b2, b3⟩, b4, b5, b6, b7⟩ := box8 hg1'
  have HG1' := Lib.hid hg1'
  rw [hW1] at b0 b1 b2 b3 b4 b5 b6 b7
  have HW1 := Lib.hid hW1
  clear hg1' hW1 hn1 hg1 hq hO hw hT hok hGOT hL
  go_enter Tryd.func3, Tryd.ntmps3
  go_wp2_with fail
  rw [← HW1.out]
  clear b0 b1 b2 b3 b4 b5 b6 b7
  refine HSMALL.out.mono ?_
  rintro e W2 ⟨rfl, hb2⟩
  have HB2 := Lib.hid (HN1.out.trans (hb2.mono HN1.out.size))
  have HG2 := Lib.hid ((hb2.block _ (Array.getElem?_eq_some_iff.1 HG1'.out).1).trans HG1'.out)
  clear hb2
  cases q with
  | false =>
    go_wp2_with fail
    refine (HL.out W2 HB2.out).mono ?_
    rintro e W3 ⟨rfl, hb3⟩
    go_wp2_with fail
    go_ret
    exact ⟨rfl, hb3⟩
  | true =>
    by_cases hs : s.size ≤ 8000
    · have hs' : ¬ (8000 : Int) < (s.size : Int) := by omega
      have HTAKES := Lib.hid (HTAKE.out hs)
      have HGOTS := Lib.hid (HGOT.out hs)
      obtain ⟨⟨p, ev⟩, htk⟩ : ∃ y, y = takeO s := ⟨_, rfl⟩
      rw [← htk] at HTAKES HGOTS
      simp only at HGOTS
      clear htk HTAKE HGOT
      obtain ⟨⟨b0, b1, b2, b3⟩, b4, b5, b6, b7⟩ := box8 HG2.out
      go_wp2_with fail
      clear b0 b1 b2 b3 b4 b5 b6 b7
      refine (HPUT.out W2 HB2.out).mono ?_
      rintro e W3 ⟨rfl, hb3⟩
      have HB3 := Lib.hid (HB2.out.trans (hb3.mono HB2.out.size))
      have HG3 := Lib.hid ((hb3.block _ (Array.getElem?_eq_some_iff.1 HG2.out).1).trans HG2.out)
      clear hb3
      cases ok with
      | false =>
        unfold errO
        simp only [Bool.false_eq_true, if_false]
        go_wp2_with fail
        refine (HTAKES.out W3 HB3.out).mono ?_
        rintro e V4 ⟨Br, dr, Bk, dk, Bp, dp, rfl, hP, hb4⟩
        simp only at hP ⊢
        have hb4w := HB3.out.trans (hb4.mono HB3.out.size)
        obtain ⟨V5, hV5⟩ : ∃ V5, V5 = V4.alloc (.cells (obV p Br dr Bk dk Bp dp) 27) := ⟨_, rfl⟩
        have hn5 : Below V4.heap.size V4 V5 := by rw [hV5]; exact (Below.refl _ _).alloc (Nat.le_refl _) _
        have hp5 : V5.heap[V4.heap.size]? = some (.cells (obV p Br dr Bk dk Bp dp) 27 (0, 0)) := by rw [hV5]; exact alloc_lastV _ _
        have HP5 := Lib.hid (hP.at_.below hn5)
        have HC5 := Lib.hid (hb4w.trans (hn5.mono hb4w.size))
        by_cases hev : ev = 0
        · subst hev
          obtain ⟨g1, g2, g3⟩ := HGOTS.out.1 rfl
          have HQ := Lib.hid (HPUTP.out p V5 HC5.out g2 Br dr Bk dk Bp dp HP5.out)
          unfold putS at HQ
          rw [g1, if_pos rfl, g3] at HQ
          have HCK := Lib.hid (fun V h h' => HCKP.out p V h Br dr Bk dk Bp dp h')
          rw [g1] at HCK
          unfold errO at HQ HCK
          simp only [if_true] at HQ HCK
          unfold obV at hV5 hp5 HQ HCK ⊢
          obtain ⟨⟨y0, y1, y2, y3⟩, y4, y5, y6, y7⟩ := box8 hp5
          have HPB5 := Lib.hid hp5
          rw [hV5] at y0 y1 y2 y3 y4 y5 y6 y7
          have HV5 := Lib.hid hV5
          clear hb4 hb4w hn5 hp5 hP hV5 g1 g2 g3
          go_wp2_with fail
          rw [← HV5.out]
          clear y0 y1 y2 y3 y4 y5 y6 y7
          refine HQ.out.mono ?_
          rintro e V6 ⟨rfl, hb6⟩
          have HC6 := Lib.hid (HC5.out.trans (hb6.mono HC5.out.size))
          have HPB6 := Lib.hid ((hb6.block _ (Array.getElem?_eq_some_iff.1 HPB5.out).1).trans HPB5.out)
          have HP6 := Lib.hid (HP5.out.below hb6)
          obtain ⟨⟨y0, y1, y2, y3⟩, y4, y5, y6, y7⟩ := box8 HPB6.out
          clear hb6
          go_wp2_with fail
          clear y0 y1 y2 y3 y4 y5 y6 y7
          refine (HCK.out V6 HC6.out HP6.out).mono ?_
          rintro e V7 ⟨rfl, hb7⟩
          have HC7 := Lib.hid (HC6.out.trans (hb7.mono HC6.out.size))
          clear hb7
          go_wp2_with fail
          refine (HL.out V7 HC7.out).mono ?_
          rintro e V8 ⟨rfl, hb8⟩
          go_wp2_with fail
          go_ret
          exact ⟨rfl, hb8⟩
        · have g := HGOTS.out.2 hev
          subst g
          have hev' : (ev != 0) = true := by simpa using hev
          have HZ := Lib.hid (HZS.out V5 Br dr Bk dk Bp dp HP5.out)
          unfold obV zOb at hV5 hp5 HZ ⊢
          simp only [List.length_nil] at hV5 hp5 HZ ⊢
          obtain ⟨⟨y0, y1, y2, y3⟩, y4, y5, y6, y7⟩ := box8 hp5
          rw [hV5] at y0 y1 y2 y3 y4 y5 y6 y7
          have HV5 := Lib.hid hV5
          clear hb4 hb4w hn5 hp5 hP hV5
          go_wp2_with fail
          rw [← HV5.out]
          clear y0 y1 y2 y3 y4 y5 y6 y7
          refine HZ.out.mono ?_
          rintro e V6 ⟨rfl, hb6⟩
          have HC6 := Lib.hid (HC5.out.trans (hb6.mono HC5.out.size))
          clear hb6
          go_wp2_with fail
          refine (HL.out V6 HC6.out).mono ?_
          rintro e V7 ⟨rfl, hb7⟩
          go_wp2_with fail
          go_ret
          exact ⟨rfl, hb7⟩
      | true =>
        obtain ⟨htb, HTB, HSUM⟩ := HOK.out (by first | rfl | trivial)
        have HTB := Lib.hid HTB
        have HSUM := Lib.hid HSUM
        unfold errO at HID ⊢
        simp only [if_true] at HID ⊢
        generalize bytesOf o = bo at HTB HSUM ⊢
        generalize byL (Sha.sum (encS (cellOf o))) = idv at HSUM HID
        clear htb HPUT HOK
        go_wp2_with fail
        refine (HTB.out W3 HB3.out).mono ?_
        rintro e W4 ⟨Br, dr, Bk, dk, Bp, dp, rfl, hP, hb4⟩
        have hb4w := HB3.out.trans (hb4.mono HB3.out.size)
        have hg4 := (hb4.block _ (Array.getElem?_eq_some_iff.1 HG3.out).1).trans HG3.out
        obtain ⟨W5, hW5⟩ : ∃ W5, W5 = W4.alloc (.cells (obV o Br dr Bk dk Bp dp) 27) := ⟨_, rfl⟩
        have hn5 : Below W4.heap.size W4 W5 := by rw [hW5]; exact (Below.refl _ _).alloc (Nat.le_refl _) _
        have hp5 : W5.heap[W4.heap.size]? = some (.cells (obV o Br dr Bk dk Bp dp) 27 (0, 0)) := by rw [hW5]; exact alloc_lastV _ _
        have hg5 := (hn5.block _ (Array.getElem?_eq_some_iff.1 hg4).1).trans hg4
        have HP5 := Lib.hid (hP.at_.below hn5)
        have HB5 := Lib.hid (hb4w.trans (hn5.mono hb4w.size))
        have HG5 := Lib.hid hg5
        unfold obV at hW5 hp5 ⊢
        have HPB5 := Lib.hid hp5
        obtain ⟨⟨b0, b1, b2, b3⟩, b4, b5, b6, b7⟩ := box8 hg5
        rw [hW5] at b0 b1 b2 b3 b4 b5 b6 b7
        have HW5 := Lib.hid hW5
        clear hb4 hb4w hg4 hn5 hp5 hg5 hP hW5
        simp only
        go_wp2_with fail
        rw [← HW5.out]
        clear b0 b1 b2 b3 b4 b5 b6 b7
        refine (HID.out W5 HB5.out).mono ?_
        rintro e W6 ⟨rfl, hb6⟩
        have HB6 := Lib.hid (HB5.out.trans (hb6.mono HB5.out.size))
        have HG6 := Lib.hid ((hb6.block _ (Array.getElem?_eq_some_iff.1 HG5.out).1).trans HG5.out)
        have HPB6 := Lib.hid ((hb6.block _ (Array.getElem?_eq_some_iff.1 HPB5.out).1).trans HPB5.out)
        have HP6 := Lib.hid (HP5.out.below hb6)
        obtain ⟨⟨b0, b1, b2, b3⟩, b4, b5, b6', b7⟩ := box8 HG6.out
        obtain ⟨⟨y0, y1, y2, y3⟩, y4, y5, y6, y7⟩ := box8 HPB6.out
        clear hb6
        go_wp2_with fail
        clear b0 b1 b2 b3 b4 b5 b6' b7 y0 y1 y2 y3 y4 y5 y6 y7
        refine (HSAME.out W6 HB6.out _ _ _ _ _ _ HP6.out).mono ?_
        rintro e W7 ⟨rfl, hb7⟩
        have HB7 := Lib.hid (HB6.out.trans (hb7.mono HB6.out.size))
        clear hb7
        go_wp2_with fail
        refine (HSUM.out W7).mono ?_
        rintro e W3 ⟨rfl, hb8⟩
        have HB3 := Lib.hid (HB7.out.trans (hb8.mono HB7.out.size))
        clear hb8
        go_wp2_with fail
        refine (HTAKES.out W3 HB3.out).mono ?_
        rintro e V4 ⟨Br, dr, Bk, dk, Bp, dp, rfl, hP, hb4⟩
        simp only at hP ⊢
        have hb4w := HB3.out.trans (hb4.mono HB3.out.size)
        obtain ⟨V5, hV5⟩ : ∃ V5, V5 = V4.alloc (.cells (obV p Br dr Bk dk Bp dp) 27) := ⟨_, rfl⟩
        have hn5 : Below V4.heap.size V4 V5 := by rw [hV5]; exact (Below.refl _ _).alloc (Nat.le_refl _) _
        have hp5 : V5.heap[V4.heap.size]? = some (.cells (obV p Br dr Bk dk Bp dp) 27 (0, 0)) := by rw [hV5]; exact alloc_lastV _ _
        have HP5 := Lib.hid (hP.at_.below hn5)
        have HC5 := Lib.hid (hb4w.trans (hn5.mono hb4w.size))
        by_cases hev : ev = 0
        · subst hev
          obtain ⟨g1, g2, g3⟩ := HGOTS.out.1 rfl
          have HQ := Lib.hid (HPUTP.out p V5 HC5.out g2 Br dr Bk dk Bp dp HP5.out)
          unfold putS at HQ
          rw [g1, if_pos rfl, g3] at HQ
          have HCK := Lib.hid (fun V h h' => HCKP.out p V h Br dr Bk dk Bp dp h')
          rw [g1] at HCK
          unfold errO at HQ HCK
          simp only [if_true] at HQ HCK
          unfold obV at hV5 hp5 HQ HCK ⊢
          obtain ⟨⟨y0, y1, y2, y3⟩, y4, y5, y6, y7⟩ := box8 hp5
          have HPB5 := Lib.hid hp5
          rw [hV5] at y0 y1 y2 y3 y4 y5 y6 y7
          have HV5 := Lib.hid hV5
          clear hb4 hb4w hn5 hp5 hP hV5 g1 g2 g3
          go_wp2_with fail
          rw [← HV5.out]
          clear y0 y1 y2 y3 y4 y5 y6 y7
          refine HQ.out.mono ?_
          rintro e V6 ⟨rfl, hb6⟩
          have HC6 := Lib.hid (HC5.out.trans (hb6.mono HC5.out.size))
          have HPB6 := Lib.hid ((hb6.block _ (Array.getElem?_eq_some_iff.1 HPB5.out).1).trans HPB5.out)
          have HP6 := Lib.hid (HP5.out.below hb6)
          obtain ⟨⟨y0, y1, y2, y3⟩, y4, y5, y6, y7⟩ := box8 HPB6.out
          clear hb6
          go_wp2_with fail
          clear y0 y1 y2 y3 y4 y5 y6 y7
          refine (HCK.out V6 HC6.out HP6.out).mono ?_
          rintro e V7 ⟨rfl, hb7⟩
          have HC7 := Lib.hid (HC6.out.trans (hb7.mono HC6.out.size))
          clear hb7
          go_wp2_with fail
          refine (HL.out V7 HC7.out).mono ?_
          rintro e V8 ⟨rfl, hb8⟩
          go_wp2_with fail
          go_ret
          exact ⟨rfl, hb8⟩
        · have g := HGOTS.out.2 hev
          subst g
          have hev' : (ev != 0) = true := by simpa using hev
          have HZ := Lib.hid (HZS.out V5 Br dr Bk dk Bp dp HP5.out)
          unfold obV zOb at hV5 hp5 HZ ⊢
          simp only [List.length_nil] at hV5 hp5 HZ ⊢
          obtain ⟨⟨y0, y1, y2, y3⟩, y4, y5, y6, y7⟩ := box8 hp5
          rw [hV5] at y0 y1 y2 y3 y4 y5 y6 y7
          have HV5 := Lib.hid hV5
          clear hb4 hb4w hn5 hp5 hP hV5
          go_wp2_with fail
          rw [← HV5.out]
          clear y0 y1 y2 y3 y4 y5 y6 y7
          refine HZ.out.mono ?_
          rintro e V6 ⟨rfl, hb6⟩
          have HC6 := Lib.hid (HC5.out.trans (hb6.mono HC5.out.size))
          clear hb6
          go_wp2_with fail
          refine (HL.out V6 HC6.out).mono ?_
          rintro e V7 ⟨rfl, hb7⟩
          go_wp2_with fail
          go_ret
          exact ⟨rfl, hb7⟩
    · have hs' : (8000 : Int) < (s.size : Int) := by omega
      go_wp2_with fail
      refine (HL.out W2 HB2.out).mono ?_
      rintro e W3 ⟨rfl, hb3⟩
      go_wp2_with fail
      go_ret
      exact ⟨rfl, hb3⟩
end Go.Proofs.YtgjlchcfdbmmlaaDoor.PObjectTakes
