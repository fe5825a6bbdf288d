/- Texts of one proof, joined: TQB. -/
import Derived.Test.YtgjlchcfdbmmlaaDoorRQg
set_option linter.unusedSimpArgs false
set_option linter.unusedVariables false
/- ObjectRows, walked. -/
namespace Go.Proofs.YtgjlchcfdbmmlaaDoor.PObjectTakes
open Go.RowKit Go.Proofs.YtgjlchcfdbmmlaaDoor.Ord Go.Proofs.YtgjlchcfdbmmlaaDoor.Obj Go.Proofs.YtgjlchcfdbmmlaaDoorW.PrintWords Go.Proofs.YtgjlchcfdbmmlaaDoorW.PrintLast Go.Proofs.YtgjlchcfdbmmlaaDoorW.PrintMore
set_option linter.unusedVariables false
set_option linter.unusedSimpArgs false
attribute [local irreducible] OpGives

def wfRows (l : List S55) : Prop := ∀ x ∈ l, (-9223372036854775808 ≤ x.f0 ∧ x.f0 ≤ 9223372036854775807) ∧ (-9223372036854775808 ≤ x.f1 ∧ x.f1 ≤ 9223372036854775807) ∧ -9223372036854775808 ≤ x.f2.f1 ∧ x.f2.f1 ≤ 9223372036854775807
/-- A node that holds these rows alone. -/
def nodeOb (l : List S55) : Ob := ⟨1, ⟨#[]⟩, l, [], [], 0, ⟨#[]⟩, ⟨#[]⟩⟩
theorem nodeOb_wf {l : List S55} (h : wfRows l) : wfOb (nodeOb l) := ⟨⟨(by decide : (-9223372036854775808 : Int) ≤ 0), (by decide : (0 : Int) ≤ 9223372036854775807)⟩, h, fun x hx => by cases hx⟩
theorem nodeOb_at {l : List S55} {A : Option Addr} {c : Nat} {w : World} (h : Kd.C k55 w A l.length l) (hc : l.length ≤ c) : ObAt w (nodeOb l) A c none 0 none 0 :=
  ⟨h, hc, Kd.C_nil _ _, Nat.le_refl _, Kd.C_nil _ _, Nat.le_refl _⟩
theorem rows_fine {l : List S55} (h : okRows l = true) (hw : wfRows l) : Fine 16 257 (rowsC l) := fine_rows 13 h (fun x hx => (hw x hx).2.2)
theorem takeRows_back {l : List S55} (h : okRows l = true) (hw : wfRows l) : takeRowsR (rowsC l) = (l, 0) := by
  unfold takeRowsR
  rw [takenR_C h, (rows_fine h hw).ok]
  rfl
theorem eqRows_self (l : List S55) : eqRows l l = true := (eqRows_iff l l).2 rfl
/-- Rows alone tell two nodes apart. -/
theorem nodes_apart {l m : List S55} (hl : wfRows l) (hm : wfRows m) (h1 : okOb (nodeOb l) = true) (h2 : okOb (nodeOb m) = true) :
    ((bytesOf (nodeOb l)).toList == (bytesOf (nodeOb m)).toList) = eqRows l m := by
  rw [Bool.eq_iff_iff, beq_iff_eq, eqRows_iff]
  constructor
  · intro h
    have hb : bytesOf (nodeOb l) = bytesOf (nodeOb m) := by
      rw [Lib.toList_data, Lib.toList_data] at h
      rw [← byL_of (bytesOf (nodeOb l)), h, byL_of]
    have := takeO_back h1 (nodeOb_wf hl)
    rw [hb, takeO_back h2 (nodeOb_wf hm)] at this
    exact (congrArg Ob.rows (congrArg Prod.fst this)).symm
  · rintro rfl; rfl
set_option maxRecDepth 100000 in
/-- An argument of the type of rows. -/
theorem open_rowsA {H : Type} {enc : TypeId × Value → H} {W : World} {held : Bool} {r : Reach} {b0 : Nat} {v : Value} {d : DataW H} {p : List MemPlace} (hv : Value.okWide Tryd.prog W r b0 23 v) (h : DataW.Trod enc Tryd.prog W 0 (fun _ => true) held 23 v d p) :
    ∃ (l : List S55) (A : Option Addr) (c : Nat), v = .slice A l.length c ∧ l.length ≤ c ∧ Kd.C k55 W A l.length l ∧ wfRows l := by
  obtain ⟨a, len, cap, rfl⟩ := Go.WideShapes.okWide_slice Tryd.underlying23 hv
  obtain ⟨fuel, hf⟩ := h
  have hf' : DataW.trod enc Tryd.prog W 0 (fun _ => true) held fuel 23 [.slice a len cap] = some (d, p) := hf
  obtain ⟨l, A, c, e, hc, hC, hw⟩ := open_rows hf'
  injection e with e1 _
  injection e1 with e1 e2 e3
  subst e1; subst e2; subst e3
  exact ⟨l, a, cap, rfl, hc, hC, hw⟩
/-- The two tables of unicode/utf8, off the row's list. -/
theorem tabs_rows {W : World} (hL : laidMet Tryd.prog Rows.objectRowsRow.laid W) : Lib.Utf8Tabs 0 1 W := tabs_of hL
set_option maxHeartbeats 32000000 in
set_option maxRecDepth 100000 in
theorem objectRows_walk (l : List S55) (A : Option Addr) (c : Nat) (o : Ob) (Ar : Option Addr) (cr : Nat) (Ak : Option Addr) (ck : Nat) (Ap : Option Addr) (cp : Nat) (w : World) (hA : Kd.C k55 w A l.length l) (hc : l.length ≤ c) (hwl : wfRows l) (hO : ObAt w o Ar cr Ak ck Ap cp) (hw : wfOb o) (hT : Lib.Utf8Tabs 0 1 w) :
    Calls Tryd.prog 5 #[.slice A l.length c, .agg (obV o Ar cr Ak ck Ap cp)] w fun e w' => e = .returned (.bool true) ∧ Below w.heap.size w w' := by
  obtain ⟨W1, hW1⟩ : ∃ W1, W1 = w.alloc (.cells (obV o Ar cr Ak ck Ap cp) 27) := ⟨_, rfl⟩
  have hn1 : Below w.heap.size w W1 := by rw [hW1]; exact (Below.refl _ _).alloc (Nat.le_refl _) _
  have hg1 : W1.heap[w.heap.size]? = some (.cells (obV o Ar cr Ak ck Ap cp) 27 (0, 0)) := by rw [hW1]; exact alloc_lastV _ _
  have hs1 : W1.heap.size = w.heap.size + 1 := by rw [hW1]; simp
  obtain ⟨q, hq⟩ := small_calls o Ar cr Ak ck Ap cp W1 (hO.below hn1)
  have HSMALL := Lib.hid hq
  have HN1 := Lib.hid hn1
  have HS1 := Lib.hid hs1
  have hL : ∀ W, Below w.heap.size w W → Calls Tryd.prog 7 #[] W fun e w' => e = .returned (.bool true) ∧ Below w.heap.size w w' := fun W h => (lives_calls W (Utf8Tabs_below hT h)).mono fun e w' ⟨he, hb⟩ => ⟨he, h.trans (hb.mono h.size)⟩
  have HL := Lib.hid hL
  have HPR := Lib.hid (fun W (h : Below w.heap.size w W) => putrows_calls l A c W (Kd.C_below hA h) hc (Utf8Tabs_below hT h))
  have HTR := Lib.hid (fun (hk : okRows l = true) W (h : Below w.heap.size w W) A' c' (h' : Kd.C k42 W A' (rowsC l).f3.length (rowsC l).f3) (hc' : (rowsC l).f3.length ≤ c') => takerows_calls (rowsC l) A' c' W h' hc' (Nat.le_trans (rows_fine hk hwl).pt (by decide)) (wfW_of _ (rows_fine hk hwl).wf) (Utf8Tabs_below hT h))
  have HTB := Lib.hid (fun (hk : okRows l = true) => takeRows_back hk hwl)
  have HS02 := Lib.hid (fun W (h : Below w.heap.size w W) A' c' (h' : Kd.C k55 W A' l.length l) (hc' : l.length ≤ c') => same02_calls l l A c A' c' W (Kd.C_below hA h) hc h' hc')
  have HP1 := Lib.hid (fun W (h : Below w.heap.size w W) => oput_calls (nodeOb l) A c none 0 none 0 W (nodeOb_at (Kd.C_below hA h) hc) (nodeOb_wf hwl) (Utf8Tabs_below hT h))
  have HP2 := Lib.hid (fun W (h : Below w.heap.size w W) => oput_calls (nodeOb o.rows) Ar cr none 0 none 0 W (nodeOb_at (Kd.C_below hO.r h) hO.lr) (nodeOb_wf hw.rows) (Utf8Tabs_below hT h))
  have HSLO := Lib.hid (fun W (h : Below w.heap.size w W) => same02_calls l o.rows A c Ar cr W (Kd.C_below hA h) hc (Kd.C_below hO.r h) hO.lr)
  have HAP := Lib.hid (fun (h1 : okOb (nodeOb l) = true) (h2 : okOb (nodeOb o.rows) = true) => nodes_apart hwl hw.rows h1 h2)
  have HA := Lib.hid hA
  unfold putS at HP1 HP2
  generalize bytesOf (nodeOb l) = t1 at HP1 HP2 HAP
  generalize bytesOf (nodeOb o.rows) = t2 at HP2 HAP
  generalize okOb (nodeOb l) = k1 at HP1 HAP
  generalize okOb (nodeOb o.rows) = k2 at HP2 HAP
  generalize eqRows l o.rows = eb at HSLO HAP
  unfold nodeOb obV at HP1 HP2
  simp only [List.length_nil] at HP1 HP2
  unfold errO at HP1 HP2
  obtain ⟨S1, hS1⟩ : ∃ S1, S1 = if k1 = true then t1 else (⟨#[]⟩ : ByteArray) := ⟨_, rfl⟩
  obtain ⟨S2, hS2⟩ : ∃ S2, S2 = if k2 = true then t2 else (⟨#[]⟩ : ByteArray) := ⟨_, rfl⟩
  obtain ⟨F1, hF1⟩ : ∃ F1 : Int, F1 = if k1 = true then 0 else 2 := ⟨_, rfl⟩
  obtain ⟨F2, hF2⟩ : ∃ F2 : Int, F2 = if k2 = true then 0 else 2 := ⟨_, rfl⟩
  rw [← hS1, ← hF1] at HP1
  rw [← hS2, ← hF2] at HP2
  have HD1 : Hid (F1 = 0 ∨ F1 = 2) := Lib.hid (by rw [hF1]; cases k1 <;> simp)
  have HD2 : Hid (F2 = 0 ∨ F2 = 2) := Lib.hid (by rw [hF2]; cases k2 <;> simp)
  have HE12 : Hid (F1 = 0 → F2 = 0 → (S1.toList == S2.toList) = eb) := Lib.hid (by
    rw [hF1, hF2, hS1, hS2]
    cases k1 <;> cases k2 <;> simp
    exact HAP.out rfl rfl)
  clear hS1 hS2 hF1 hF2 HAP
  have hg1' := hg1
  unfold obV at hg1' hW1 HSMALL ⊢
  obtain ⟨⟨b0, b1, b2, b3⟩, b4, b5, b6, b7⟩ := box8 hg1'
  have HG1 := Lib.hid hg1'
  rw [hW1] at b0 b1 b2 b3 b4 b5 b6 b7
  have HW1 := Lib.hid hW1
  clear hg1' hW1 hn1 hg1 hq hO hw hT hL hwl hs1
  by_cases hll : l.length ≤ 80
  · have hll' : ¬ (80 : Int) < (l.length : Int) := by omega
    go_enter Tryd.func5, Tryd.ntmps5
    go_wp2_with fail
    rw [← HW1.out]
    clear b0 b1 b2 b3 b4 b5 b6 b7
    refine HSMALL.out.mono ?_
    rintro e W2 ⟨rfl, hb2⟩
    have HB2 := Lib.hid (HN1.out.trans (hb2.mono HN1.out.size))
    have HG2 := Lib.hid ((hb2.block _ (Array.getElem?_eq_some_iff.1 HG1.out).1).trans HG1.out)
    have HS2 := Lib.hid (Nat.le_trans (Nat.le_of_eq HS1.out.symm) hb2.size)
    clear hb2
    cases q with
    | false =>
      go_wp2_with fail
      refine (HL.out W2 HB2.out).mono ?_
      rintro e W3 ⟨rfl, hb3⟩
      go_wp2_with fail
      go_ret
      exact ⟨rfl, hb3⟩
    | true =>
      clear hA
      go_wp2_with fail
      go_loopw [5] (fun v wr => ∃ i : Nat, v = .int .i64 (i : Int) ∧ i ≤ l.length ∧ wr = W2) (fun v _ => l.length - (intOf v).toNat)
      case atStart => exact ⟨0, rfl, Nat.zero_le _, rfl⟩
      case round =>
        obtain ⟨i, rfl, hi, rfl⟩ := hrel
        by_cases hil : i < l.length
        · obtain ⟨x, hx⟩ : ∃ x, l[i]? = some x := ⟨_, List.getElem?_eq_getElem hil⟩
          obtain ⟨ad, rfl, c0, c1, c2, c3, c4, hbk⟩ := row_at (Kd.C_below HA.out HB2.out) hx
          have hwi : IntKind.i64.wrap ((i : Int) + 1) = (i : Int) + 1 := by rw [IntKind.wrap_i64]; omega
          by_cases hxs : x.f2.f2.size ≤ 200
          · have hxs' : ¬ (200 : Int) < (x.f2.f2.size : Int) := by omega
            clear hx
            go_wp2_with fail
            go_roundw
            case rel => exact ⟨i + 1, rfl, hil, trivial⟩
            case measure => simp [intOf]; omega
          · have hxs' : (200 : Int) < (x.f2.f2.size : Int) := by omega
            clear hx
            go_wp2_with fail
            clear c0 c1 c2 c3 c4
            refine (HL.out _ HB2.out).mono ?_
            rintro e W3 ⟨rfl, hb3⟩
            go_wp2_with fail
            go_ret
            exact ⟨rfl, hb3⟩
        · obtain rfl : i = l.length := by omega
          go_wp2_with fail
          have HPR2 := HPR.out _ HB2.out
          obtain ⟨R, hR⟩ : ∃ R, R = rowsR l := ⟨_, rfl⟩
          obtain ⟨E, hE⟩ : ∃ E, E = errO (okRows l) := ⟨_, rfl⟩
          rw [← hR, ← hE] at HPR2
          have HRR := Lib.hid hR
          have HEE := Lib.hid hE
          clear hR hE
          refine HPR2.mono ?_
          rintro e W3 ⟨u, rfl, ⟨u3, rfl, hR3⟩, hb3⟩
          obtain ⟨A3, c3, rfl⟩ := R_slice hR3
          obtain ⟨_, hc3, hC3⟩ := Kd.R_reads' hR3
          have hs3 := Nat.le_trans HS2.out hb3.size
          have HS3 := Lib.hid hs3
          obtain ⟨W4, hW4⟩ : ∃ W4, W4 = W3.alloc (.cells #[.int .i64 R.f0, .int .i64 R.f1, .string R.f2, .slice A3 R.f3.length c3] 42) := ⟨_, rfl⟩
          have hn4 : Below W3.heap.size W3 W4 := by rw [hW4]; exact (Below.refl _ _).alloc (Nat.le_refl _) _
          have hg4 : W4.heap[W3.heap.size]? = some (.cells #[.int .i64 R.f0, .int .i64 R.f1, .string R.f2, .slice A3 R.f3.length c3] 42 (0, 0)) := by rw [hW4]; exact alloc_lastV _ _
          have hb24 := hb3.trans (hn4.mono hb3.size)
          have HB4 := Lib.hid (HB2.out.trans (hb24.mono HB2.out.size))
          have HG4 := Lib.hid ((hb24.block _ (Array.getElem?_eq_some_iff.1 HG2.out).1).trans HG2.out)
          have HC4 := Lib.hid (Kd.C_below hC3 hn4)
          have HC4' := Lib.hid hc3
          have HGC := Lib.hid hg4
          have HW4 := Lib.hid hW4
          clear hC3 hR3 hb3 hn4 hg4 hs3
          have hw4 := Nat.le_trans hb24.size (Nat.le_refl _)
          have HB24 := Lib.hid hb24
          clear hb24 hw4 hc3 hW4
          go_upto_if 46 with (fail)
          go_cut [] (fun wc => Below wr.heap.size wr wc)
          case first =>
            cases hok : okRows l with
            | false =>
              have hE : E = 2 := by rw [HEE.out, hok]; rfl
              subst hE
              rw [← HW4.out]
              clear hok
              go_wp2_with fail
              go_meet
              case rel => exact HB24.out
            | true =>
              have hR : R = rowsC l := by rw [HRR.out]; unfold rowsR; rw [if_pos hok]
              have hE : E = 0 := by rw [HEE.out, hok]; rfl
              subst hR
              subst hE
              rw [← HW4.out]
              have HTR' := Lib.hid (HTR.out hok _ HB4.out A3 c3 HC4.out HC4'.out)
              have htb := HTB.out hok
              rw [htb] at HTR'
              unfold TakeRowsPost at HTR'
              clear hok htb HRR
              obtain ⟨⟨y0, y1, y2, y3⟩, _⟩ := box4 HGC.out
              go_wp2_with fail
              clear y0 y1 y2 y3
              refine HTR'.out.mono ?_
              rintro e W5 ⟨A5, c5, rfl, hR5, hb5⟩
              obtain ⟨_, hc5, hC5⟩ := Kd.R_reads' hR5
              have HB5 := Lib.hid (HB4.out.trans (hb5.mono HB4.out.size))
              have HB25 := Lib.hid (HB24.out.trans (hb5.mono HB24.out.size))
              have HSM := Lib.hid (HS02.out W5 HB5.out A5 c5 hC5 hc5)
              clear hb5 hR5 hc5 hC5
              go_wp2_with fail
              refine HSM.out.mono ?_
              rintro e W6 ⟨rfl, hb6⟩
              rw [eqRows_self]
              have HB26 := Lib.hid (HB25.out.trans (hb6.mono HB25.out.size))
              clear hb6
              go_wp2_with fail
              go_meet
              case rel => exact HB26.out
          case rest =>
            have HB6 := Lib.hid (HB2.out.trans (hcut.mono HB2.out.size))
            have HG6 := Lib.hid ((hcut.block _ (Array.getElem?_eq_some_iff.1 HG2.out).1).trans HG2.out)
            have hlt : w.heap.size < wc.heap.size := Nat.lt_of_lt_of_le HS2.out hcut.size
            have hne1 : w.heap.size ≠ wc.heap.size := by omega
            have hne2 : w.heap.size ≠ wc.heap.size + 1 := by omega
            have hne3 : ¬ wc.heap.size = w.heap.size := by omega
            have hne4 : ¬ wc.heap.size + 1 = w.heap.size := by omega
            clear hcut
            obtain ⟨⟨y0, y1, y2, y3⟩, y4, y5, y6, y7⟩ := box8 HG6.out
            go_wp2_with fail
            go_region
            · obtain ⟨X, hX⟩ : ∃ X, X = ((wc.alloc (.cells #[.int .i64 1, .string (⟨#[]⟩ : ByteArray), .slice A l.length c, .slice none 0 0, .slice none 0 0, .int .i64 0, .string (⟨#[]⟩ : ByteArray), .string (⟨#[]⟩ : ByteArray)] 27)).alloc (.cells #[.int .i64 1, .string (⟨#[]⟩ : ByteArray), .slice Ar o.rows.length cr, .slice none 0 0, .slice none 0 0, .int .i64 0, .string (⟨#[]⟩ : ByteArray), .string (⟨#[]⟩ : ByteArray)] 27)).drew := ⟨_, rfl⟩
              rw [← hX]
              have hbx : Below wc.heap.size wc X := by rw [hX]; exact (((Below.refl _ _).alloc (Nat.le_refl _) _).alloc (by simp) _).drew
              have hx0 : X.heap[wc.heap.size]? = some (.cells #[.int .i64 1, .string (⟨#[]⟩ : ByteArray), .slice A l.length c, .slice none 0 0, .slice none 0 0, .int .i64 0, .string (⟨#[]⟩ : ByteArray), .string (⟨#[]⟩ : ByteArray)] 27 (0, 0)) := by rw [hX]; exact heap_alloc2_old _ _ _
              have hx1 : X.heap[wc.heap.size + 1]? = some (.cells #[.int .i64 1, .string (⟨#[]⟩ : ByteArray), .slice Ar o.rows.length cr, .slice none 0 0, .slice none 0 0, .int .i64 0, .string (⟨#[]⟩ : ByteArray), .string (⟨#[]⟩ : ByteArray)] 27 (0, 0)) := by rw [hX]; exact heap_alloc2_new _ _ _
              have HX0 := Lib.hid hx0
              have HX1 := Lib.hid hx1
              have HB7 := Lib.hid (HB6.out.trans (hbx.mono HB6.out.size))
              have HG7 := Lib.hid ((hbx.block _ (Array.getElem?_eq_some_iff.1 HG6.out).1).trans HG6.out)
              have HF7 := Lib.hid (HP1.out X HB7.out)
              obtain ⟨⟨y0, y1, y2, y3⟩, y4, y5, y6, y7⟩ := box8 hx0
              clear hX hbx hx0 hx1
              go_wp2_with fail
              clear y0 y1 y2 y3 y4 y5 y6 y7
              refine HF7.out.mono ?_
              rintro e W8 ⟨rfl, hb8⟩
              have HB8 := Lib.hid (HB7.out.trans (hb8.mono HB7.out.size))
              have HG8 := Lib.hid ((hb8.block _ (Array.getElem?_eq_some_iff.1 HG7.out).1).trans HG7.out)
              have hx8 := (hb8.block _ (Array.getElem?_eq_some_iff.1 HX1.out).1).trans HX1.out
              have HF8 := Lib.hid (HP2.out W8 HB8.out)
              obtain ⟨⟨y0, y1, y2, y3⟩, y4, y5, y6, y7⟩ := box8 hx8
              clear hx8 hb8
              go_wp2_with fail
              clear y0 y1 y2 y3 y4 y5 y6 y7
              refine HF8.out.mono ?_
              rintro e W9 ⟨rfl, hb9⟩
              have HB9 := Lib.hid (HB8.out.trans (hb9.mono HB8.out.size))
              have hg9 := (hb9.block _ (Array.getElem?_eq_some_iff.1 HG8.out).1).trans HG8.out
              have HF9 := Lib.hid (HSLO.out W9 HB9.out)
              obtain ⟨⟨y0, y1, y2, y3⟩, y4, y5, y6, y7⟩ := box8 hg9
              clear hb9 hg9
              rcases HD1.out with hf1 | hf1
              case inr =>
                subst hf1
                go_wp2_with fail
                refine (HL.out W9 HB9.out).mono ?_
                rintro e W10 ⟨rfl, hb10⟩
                go_wp2_with fail
                go_ret
                exact ⟨rfl, hb10⟩
              case inl =>
                subst hf1
                rcases HD2.out with hf2 | hf2
                case inr =>
                  subst hf2
                  go_wp2_with fail
                  refine (HL.out W9 HB9.out).mono ?_
                  rintro e W10 ⟨rfl, hb10⟩
                  go_wp2_with fail
                  go_ret
                  exact ⟨rfl, hb10⟩
                case inl =>
                  subst hf2
                  have heq := HE12.out rfl rfl
                  cases eb with
                  | false =>
                    go_wp2_with fail
                    clear y0 y1 y2 y3 y4 y5 y6 y7
                    refine HF9.out.mono ?_
                    rintro e W10 ⟨rfl, hb10⟩
                    have HB10 := Lib.hid (HB9.out.trans (hb10.mono HB9.out.size))
                    clear hb10
                    go_wp2_with fail
                    refine (HL.out W10 HB10.out).mono ?_
                    rintro e W11 ⟨rfl, hb11⟩
                    go_wp2_with fail
                    go_ret
                    exact ⟨rfl, hb11⟩
                  | true =>
                    go_wp2_with fail
                    clear y0 y1 y2 y3 y4 y5 y6 y7
                    refine HF9.out.mono ?_
                    rintro e W10 ⟨rfl, hb10⟩
                    have HB10 := Lib.hid (HB9.out.trans (hb10.mono HB9.out.size))
                    clear hb10
                    go_wp2_with fail
                    refine (HL.out W10 HB10.out).mono ?_
                    rintro e W11 ⟨rfl, hb11⟩
                    go_wp2_with fail
                    go_ret
                    exact ⟨rfl, hb11⟩
            · obtain ⟨X, hX⟩ : ∃ X, X = ((wc.alloc (.cells #[.int .i64 1, .string (⟨#[]⟩ : ByteArray), .slice Ar o.rows.length cr, .slice none 0 0, .slice none 0 0, .int .i64 0, .string (⟨#[]⟩ : ByteArray), .string (⟨#[]⟩ : ByteArray)] 27)).alloc (.cells #[.int .i64 1, .string (⟨#[]⟩ : ByteArray), .slice A l.length c, .slice none 0 0, .slice none 0 0, .int .i64 0, .string (⟨#[]⟩ : ByteArray), .string (⟨#[]⟩ : ByteArray)] 27)).drew := ⟨_, rfl⟩
              rw [← hX]
              have hbx : Below wc.heap.size wc X := by rw [hX]; exact (((Below.refl _ _).alloc (Nat.le_refl _) _).alloc (by simp) _).drew
              have hx0 : X.heap[wc.heap.size]? = some (.cells #[.int .i64 1, .string (⟨#[]⟩ : ByteArray), .slice Ar o.rows.length cr, .slice none 0 0, .slice none 0 0, .int .i64 0, .string (⟨#[]⟩ : ByteArray), .string (⟨#[]⟩ : ByteArray)] 27 (0, 0)) := by rw [hX]; exact heap_alloc2_old _ _ _
              have hx1 : X.heap[wc.heap.size + 1]? = some (.cells #[.int .i64 1, .string (⟨#[]⟩ : ByteArray), .slice A l.length c, .slice none 0 0, .slice none 0 0, .int .i64 0, .string (⟨#[]⟩ : ByteArray), .string (⟨#[]⟩ : ByteArray)] 27 (0, 0)) := by rw [hX]; exact heap_alloc2_new _ _ _
              have HX0 := Lib.hid hx0
              have HX1 := Lib.hid hx1
              have HB7 := Lib.hid (HB6.out.trans (hbx.mono HB6.out.size))
              have HG7 := Lib.hid ((hbx.block _ (Array.getElem?_eq_some_iff.1 HG6.out).1).trans HG6.out)
              have HF7 := Lib.hid (HP1.out X HB7.out)
              obtain ⟨⟨y0, y1, y2, y3⟩, y4, y5, y6, y7⟩ := box8 hx1
              clear hX hbx hx0 hx1
              go_wp2_with fail
              clear y0 y1 y2 y3 y4 y5 y6 y7
              refine HF7.out.mono ?_
              rintro e W8 ⟨rfl, hb8⟩
              have HB8 := Lib.hid (HB7.out.trans (hb8.mono HB7.out.size))
              have HG8 := Lib.hid ((hb8.block _ (Array.getElem?_eq_some_iff.1 HG7.out).1).trans HG7.out)
              have hx8 := (hb8.block _ (Array.getElem?_eq_some_iff.1 HX0.out).1).trans HX0.out
              have HF8 := Lib.hid (HP2.out W8 HB8.out)
              obtain ⟨⟨y0, y1, y2, y3⟩, y4, y5, y6, y7⟩ := box8 hx8
              clear hx8 hb8
              go_wp2_with fail
              clear y0 y1 y2 y3 y4 y5 y6 y7
              refine HF8.out.mono ?_
              rintro e W9 ⟨rfl, hb9⟩
              have HB9 := Lib.hid (HB8.out.trans (hb9.mono HB8.out.size))
              have hg9 := (hb9.block _ (Array.getElem?_eq_some_iff.1 HG8.out).1).trans HG8.out
              have HF9 := Lib.hid (HSLO.out W9 HB9.out)
              obtain ⟨⟨y0, y1, y2, y3⟩, y4, y5, y6, y7⟩ := box8 hg9
              clear hb9 hg9
              rcases HD1.out with hf1 | hf1
              case inr =>
                subst hf1
                go_wp2_with fail
                refine (HL.out W9 HB9.out).mono ?_
                rintro e W10 ⟨rfl, hb10⟩
                go_wp2_with fail
                go_ret
                exact ⟨rfl, hb10⟩
              case inl =>
                subst hf1
                rcases HD2.out with hf2 | hf2
                case inr =>
                  subst hf2
                  go_wp2_with fail
                  refine (HL.out W9 HB9.out).mono ?_
                  rintro e W10 ⟨rfl, hb10⟩
                  go_wp2_with fail
                  go_ret
                  exact ⟨rfl, hb10⟩
                case inl =>
                  subst hf2
                  have heq := HE12.out rfl rfl
                  cases eb with
                  | false =>
                    go_wp2_with fail
                    clear y0 y1 y2 y3 y4 y5 y6 y7
                    refine HF9.out.mono ?_
                    rintro e W10 ⟨rfl, hb10⟩
                    have HB10 := Lib.hid (HB9.out.trans (hb10.mono HB9.out.size))
                    clear hb10
                    go_wp2_with fail
                    refine (HL.out W10 HB10.out).mono ?_
                    rintro e W11 ⟨rfl, hb11⟩
                    go_wp2_with fail
                    go_ret
                    exact ⟨rfl, hb11⟩
                  | true =>
                    go_wp2_with fail
                    clear y0 y1 y2 y3 y4 y5 y6 y7
                    refine HF9.out.mono ?_
                    rintro e W10 ⟨rfl, hb10⟩
                    have HB10 := Lib.hid (HB9.out.trans (hb10.mono HB9.out.size))
                    clear hb10
                    go_wp2_with fail
                    refine (HL.out W10 HB10.out).mono ?_
                    rintro e W11 ⟨rfl, hb11⟩
                    go_wp2_with fail
                    go_ret
                    exact ⟨rfl, hb11⟩
  · have hll' : (80 : Int) < (l.length : Int) := by omega
    go_enter Tryd.func5, Tryd.ntmps5
    go_wp2_with fail
    rw [← HW1.out]
    clear b0 b1 b2 b3 b4 b5 b6 b7
    refine (HL.out W1 HN1.out).mono ?_
    rintro e W3 ⟨rfl, hb3⟩
    go_wp2_with fail
    go_ret
    exact ⟨rfl, hb3⟩
end Go.Proofs.YtgjlchcfdbmmlaaDoor.PObjectTakes
