/- CellBack, walked. -/
import Derived.Test.YtjelpapcboiimaaUZ
import Derived.Test.YtjelpapcboiimaaUN
import Derived.Deep.CutRange
import Derived.Deep.DeepCutAuto
namespace Go.Proofs.Ytjelpapcboiimaa.PCellPuts
open Go.RowKit Go.Proofs.Ytjelpapcboiimaa.Ord Go.Proofs.YtjelpapcboiimaaW.PrintWords Go.Proofs.YtjelpapcboiimaaW.PrintLast Go.Proofs.YtjelpapcboiimaaW.PrintMore
set_option linter.unusedVariables false
set_option linter.unusedSimpArgs false

theorem made_cell {W X : World} {cs : Array Value} {ty : TypeId} (h : X = W.alloc (.cells cs ty)) : Below W.heap.size W X ∧ X.heap[W.heap.size]? = some (.cells cs ty (0, 0)) ∧ X.heap.size = W.heap.size + 1 := by
  subst h
  exact ⟨(Below.refl _ _).alloc (Nat.le_refl _) _, heap_alloc_last _ _, by simp⟩
theorem keep_block {w W : World} {b : Nat} {o : Obj} (hb : Below w.heap.size w W) (h : w.heap[b]? = some o) : W.heap[b]? = some o := (hb.block b (Array.getElem?_eq_some_iff.1 h).1).trans h
def bytesOf' (l : List UInt8) : ByteArray := ⟨l.toArray⟩
theorem bytes_data (l : List UInt8) : (bytesOf' l).data.toList = l := by simp [bytesOf']
theorem bytes_size (l : List UInt8) : (bytesOf' l).size = l.length := by rw [Lib.size_eq, bytes_data]
theorem cut_all (l : List UInt8) : cut (bytesOf' l) 0 l.length = l := by unfold cut; rw [bytes_data, List.drop_zero, List.take_length]
/-- What was put is taken. -/
theorem take_back {x : S25} (hok : okS 16 x = true) (hw : wfS x) : takeR (bytesOf' (encS x)) = (x, 0) := by
  have h := placed_any (bytesOf' (encS x)) 16 0 x hok hw (cut_all _) (by rw [bytes_size]; omega)
  have hn : nextR (bytesOf' (encS x)) 0 = (x, (encS x).length, 0) := by
    have := nextR_ok (s := bytesOf' (encS x)) (p := 0) (Nat.zero_le _) h
    rw [Nat.zero_add] at this
    exact this
  unfold takeR
  rw [hn]
  simp only
  rw [if_neg (by decide), if_neg (by rw [bytes_size]; omega)]
/-- What was read. -/
theorem next_back {s : ByteArray} {a : Int} (hs : s.size ≤ 140737488355328) (h : (nextR s a).2.2 = 0) :
    0 ≤ a ∧ a < ((nextR s a).2.1 : Int) ∧ (nextR s a).2.1 ≤ s.size ∧ wfS (nextR s a).1 ∧ okS 16 (nextR s a).1 = true ∧ bytesOf' (encS (nextR s a).1) = s.extract a.toNat (nextR s a).2.1 ∧ (encS (nextR s a).1).length ≤ s.size := by
  by_cases ho : a < 0 ∨ (s.size : Int) < a
  · rw [nextR_out ho] at h; cases h
  · obtain ⟨p, rfl⟩ : ∃ p : Nat, a = (p : Int) := ⟨a.toNat, by omega⟩
    have hp : p ≤ s.size := by omega
    cases hc : cellD s 16 p with
    | bad p' e => rw [nextR_bad hp hc] at h; have := cellD_bad s 16 p p' e hc; simp only at h; omega
    | ok x q =>
      have g := cellD_got s hs 16 p x q hc
      rw [nextR_ok hp hc]
      have hlt := g.lt
      have hsz := Lib.size_eq s
      have hle := g.le
      have hl := cut_len (s := s) (p := p) (n := q - p) (by omega)
      rw [g.enc] at hl
      refine ⟨by omega, by simp only; omega, g.le, g.wf, g.ok, ?_, by simp only; omega⟩
      simp only
      rw [Int.toNat_natCast, Lib.extract_eq, bytesOf', ← g.enc]
      rfl
theorem next_zero {s : ByteArray} {a : Int} (h : (nextR s a).2.2 ≠ 0) : (nextR s a).1 = z25 := by
  by_cases ho : a < 0 ∨ (s.size : Int) < a
  · rw [nextR_out ho]
  · obtain ⟨p, rfl⟩ : ∃ p : Nat, a = (p : Int) := ⟨a.toNat, by omega⟩
    have hp : p ≤ s.size := by omega
    cases hc : cellD s 16 p with
    | bad p' e => rw [nextR_bad hp hc]
    | ok x q => rw [nextR_ok hp hc] at h; exact absurd rfl h
theorem checkR_ok {x : S25} (h : okS 16 x = true) : checkR x = 0 := by unfold checkR; rw [if_pos h]
theorem putB_ok (x : S25) : putB 0 x = encS x := by unfold putB; rw [if_pos rfl]
theorem wfW_z : wfW z25 := by unfold z25; rw [wfW, wfWL]; exact ⟨by decide, by decide, by decide, by decide, trivial⟩
set_option maxHeartbeats 8000000 in
set_option maxRecDepth 100000 in
theorem cellBack_walk (x : S25) (A : Option Addr) (c : Nat) (s : ByteArray) (a : Int) (w : World) (hA : Kd.C k25 w A x.f3.length x.f3) (hc : x.f3.length ≤ c) (hx : wfW x) (ha0 : -9223372036854775808 ≤ a) (ha1 : a ≤ 9223372036854775807) (hs0 : s.size ≤ 9223372036854775807) :
    Calls Try.prog 6 #[.agg #[.int .i64 x.f0, .int .i64 x.f1, .string x.f2, .slice A x.f3.length c], .string s, .int .i64 a] w fun e w' => e = .returned (.bool true) ∧ Below w.heap.size w w' := by
  obtain ⟨b, ⟨k, hk⟩, hb⟩ := small_any x hx
  obtain ⟨W1, hW1⟩ : ∃ W1, W1 = w.alloc (.cells #[.int .i64 x.f0, .int .i64 x.f1, .string x.f2, .slice A x.f3.length c] 25) := ⟨_, rfl⟩
  obtain ⟨hn1', hg1, _⟩ := made_cell hW1
  have HS := Lib.hid (fastilaw04_small.calls k x.f0 x.f1 x.f2 A c x.f3 b W1 (Kd.C_below hA hn1') hc hk)
  have HW1 := Lib.hid hW1
  have HN1 := Lib.hid hn1'
  have HG1 := Lib.hid hg1
  have HA := Lib.hid hA
  have HB := Lib.hid hb
  clear hW1 hn1' hg1 hA hk hb
  have lives : ∀ W, Below w.heap.size w W → Calls Try.prog 8 #[] W fun e w' => e = .returned (.bool true) ∧ Below w.heap.size w w' := fun W hW => (lives_calls W).mono fun e w' ⟨he, hw⟩ => ⟨he, hW.trans (hw.mono hW.size)⟩
  have LV := Lib.hid lives
  clear lives
  have c0 : W1.cell? ⟨w.heap.size, 0, none⟩ = some (.int .i64 x.f0) := by rw [Lib.cell_of_heap HG1.out]; rfl
  have c1 : W1.cell? ⟨w.heap.size, 1, none⟩ = some (.int .i64 x.f1) := by rw [Lib.cell_of_heap HG1.out]; rfl
  have c2 : W1.cell? ⟨w.heap.size, 2, none⟩ = some (.string x.f2) := by rw [Lib.cell_of_heap HG1.out]; rfl
  have c3 : W1.cell? ⟨w.heap.size, 3, none⟩ = some (.slice A x.f3.length c) := by rw [Lib.cell_of_heap HG1.out]; rfl
  go_enter Try.func6, Try.ntmps6
  go_wp2_with fail
  rw [← HW1.out]
  go_wp2_with fail
  clear c0 c1 c2 c3
  refine HS.out.mono ?_
  rintro e W2 ⟨rfl, hb2⟩
  have HG2 := Lib.hid (keep_block hb2 HG1.out)
  have B2 := Lib.hid (HN1.out.trans (hb2.mono HN1.out.size))
  clear hb2
  cases b with
  | false =>
    go_wp2_with fail
    refine (LV.out W2 B2.out).mono ?_
    rintro e W3 ⟨rfl, hb3⟩
    go_wp2_with fail
    go_ret
    exact ⟨rfl, hb3⟩
  | true =>
    by_cases hsz : 5000 < s.size
    · go_wp2_with fail
      refine (LV.out W2 B2.out).mono ?_
      rintro e W3 ⟨rfl, hb3⟩
      go_wp2_with fail
      go_ret
      exact ⟨rfl, hb3⟩
    · have hs : s.size ≤ 140737488355328 := by omega
      obtain ⟨hp, hd⟩ := HB.out rfl
      have hxs := wfS_small x hx (by omega)
      have hel := enc_le x hxs
      obtain ⟨k1, hk1⟩ := Check_any x hx
      obtain ⟨r, hr⟩ : ∃ r, checkR x = r := ⟨_, rfl⟩
      rw [hr] at hk1
      obtain ⟨q, hq⟩ : ∃ q : ByteArray, (⟨(putB r x).toArray⟩ : ByteArray) = q := ⟨_, rfl⟩
      have hput := fun W (hW : Below w.heap.size w W) => Put_calls k1 x A c r W (Kd.C_below HA.out hW) hc hxs hk1 (fun _ => by omega)
      have hsize := fun W (hW : Below w.heap.size w W) => Size_calls k1 x A c r W (Kd.C_below HA.out hW) hc hxs hk1 (fun _ => by omega)
      rw [hq] at hput
      have HPUT := Lib.hid hput
      have HSIZE := Lib.hid hsize
      have HQ := Lib.hid hq
      have HR := Lib.hid hr
      have HXS := Lib.hid hxs
      have d0 : W2.cell? ⟨w.heap.size, 0, none⟩ = some (.int .i64 x.f0) := by rw [Lib.cell_of_heap HG2.out]; rfl
      have d1 : W2.cell? ⟨w.heap.size, 1, none⟩ = some (.int .i64 x.f1) := by rw [Lib.cell_of_heap HG2.out]; rfl
      have d2 : W2.cell? ⟨w.heap.size, 2, none⟩ = some (.string x.f2) := by rw [Lib.cell_of_heap HG2.out]; rfl
      have d3 : W2.cell? ⟨w.heap.size, 3, none⟩ = some (.slice A x.f3.length c) := by rw [Lib.cell_of_heap HG2.out]; rfl
      clear hput hsize hq hr hk1 hel hxs
      go_wp2_with fail
      clear d0 d1 d2 d3
      refine (HPUT.out W2 B2.out).mono ?_
      rintro e W3 ⟨rfl, hb3⟩
      have HG3 := Lib.hid (keep_block hb3 HG2.out)
      have B3 := Lib.hid (B2.out.trans (hb3.mono B2.out.size))
      clear hb3
      go_upto_if 31 with (fail)
      go_cut [] (fun wc => Below w.heap.size w wc)
      case first =>
        cases hok : okS 16 x with
        | false =>
          have hr2 : r = 2 := by rw [← HR.out]; unfold checkR; rw [hok]; rfl
          subst hr2
          go_wp2_with fail
          go_meet
          case rel => exact B3.out
        | true =>
          have hr0 : r = 0 := by rw [← HR.out]; exact checkR_ok hok
          subst hr0
          have hq0 : q = bytesOf' (encS x) := by rw [← HQ.out, putB_ok]; rfl
          have hql : (putB 0 x).length = q.size := by rw [hq0, bytes_size, putB_ok]
          have htk := fun W => Take_calls q W (by rw [hq0, bytes_size]; have := enc_le x HXS.out; omega)
          have htr : takeR q = (x, 0) := by rw [hq0]; exact take_back hok HXS.out
          rw [htr] at htk
          unfold TakePost at htk
          obtain ⟨k3, hk3⟩ := Same_self x hx
          have HTK := Lib.hid htk
          have HSM := Lib.hid (fun W A' c' (hW : Below w.heap.size w W) (hC : Kd.C k25 W A' x.f3.length x.f3) (hc' : x.f3.length ≤ c') => fastiref04_Same.calls k3 x.f0 x.f1 x.f2 A c x.f3 x.f0 x.f1 x.f2 A' c' x.f3 true W (Kd.C_below HA.out hW) hc hC hc' hk3)
          have HSZ := HSIZE.out
          rw [hql] at HSZ
          have HSZ := Lib.hid HSZ
          clear hq0 hql htk htr hk3 hok
          go_wp2_with fail
          refine (HTK.out W3).mono ?_
          rintro e W4 ⟨v, rfl, hR, hb⟩
          obtain ⟨A1, c1, rfl⟩ := R_slice hR
          obtain ⟨hC1, hc1⟩ := R_C hR
          obtain ⟨X1, hX1⟩ : ∃ X1, X1 = W4.alloc (.cells #[.int .i64 x.f0, .int .i64 x.f1, .string x.f2, .slice A1 x.f3.length c1] 25) := ⟨_, rfl⟩
          obtain ⟨Bx, G1, E1⟩ := made_cell hX1
          have C1 := Lib.hid (Kd.C_below hC1 Bx)
          have B34 := hb.trans (Bx.mono hb.size)
          have HX1 := Lib.hid hX1
          have HG4 := Lib.hid (keep_block B34 HG3.out)
          have HB4 := Lib.hid (B3.out.trans (B34.mono B3.out.size))
          have HGX := Lib.hid G1
          have d0 : X1.cell? ⟨w.heap.size, 0, none⟩ = some (.int .i64 x.f0) := by rw [Lib.cell_of_heap HG4.out]; rfl
          have d1 : X1.cell? ⟨w.heap.size, 1, none⟩ = some (.int .i64 x.f1) := by rw [Lib.cell_of_heap HG4.out]; rfl
          have d2 : X1.cell? ⟨w.heap.size, 2, none⟩ = some (.string x.f2) := by rw [Lib.cell_of_heap HG4.out]; rfl
          have d3 : X1.cell? ⟨w.heap.size, 3, none⟩ = some (.slice A x.f3.length c) := by rw [Lib.cell_of_heap HG4.out]; rfl
          rw [hX1] at d0 d1 d2 d3
          clear hb hR hC1 Bx G1 E1 B34 hX1
          go_wp2_with fail
          rw [← HX1.out]
          clear d0 d1 d2 d3
          refine (HSM.out X1 A1 c1 HB4.out C1.out hc1).mono ?_
          rintro e W5 ⟨rfl, hb⟩
          have HG5 := Lib.hid (keep_block hb HG4.out)
          have HB5 := Lib.hid (HB4.out.trans (hb.mono HB4.out.size))
          have d0 : W5.cell? ⟨w.heap.size, 0, none⟩ = some (.int .i64 x.f0) := by rw [Lib.cell_of_heap HG5.out]; rfl
          have d1 : W5.cell? ⟨w.heap.size, 1, none⟩ = some (.int .i64 x.f1) := by rw [Lib.cell_of_heap HG5.out]; rfl
          have d2 : W5.cell? ⟨w.heap.size, 2, none⟩ = some (.string x.f2) := by rw [Lib.cell_of_heap HG5.out]; rfl
          have d3 : W5.cell? ⟨w.heap.size, 3, none⟩ = some (.slice A x.f3.length c) := by rw [Lib.cell_of_heap HG5.out]; rfl
          clear hb
          go_wp2_with fail
          clear d0 d1 d2 d3
          refine (HSZ.out W5 HB5.out).mono ?_
          rintro e W6 ⟨rfl, hb⟩
          have HB6 := Lib.hid (HB5.out.trans (hb.mono HB5.out.size))
          clear hb
          go_wp2_with fail
          go_meet
          case rel => exact HB6.out
      case rest =>
        have HB3 := Lib.hid hcut
        clear hcut
        obtain ⟨⟨y, tq, e0⟩, hnr⟩ : ∃ nr, nextR s a = nr := ⟨_, rfl⟩
        have hn := fun W => Next_calls s a W hs ha0 ha1
        unfold NextPost at hn
        rw [hnr] at hn
        simp only at hn
        have HN := Lib.hid hn
        by_cases he0 : e0 = 0
        · subst he0
          obtain ⟨p1, p2, p3, p4, p5, p6, p7⟩ := next_back (s := s) (a := a) hs (by rw [hnr])
          rw [hnr] at p2 p3 p4 p5 p6 p7
          simp only at p2 p3 p4 p5 p6 p7
          obtain ⟨pos, rfl⟩ : ∃ pos : Nat, a = (pos : Int) := ⟨a.toNat, by omega⟩
          rw [Int.toNat_natCast] at p6
          obtain ⟨ky, hky⟩ := Check_any y (wfW_of y p4)
          rw [checkR_ok p5] at hky
          have hpy := fun W A' c' (hC : Kd.C k25 W A' y.f3.length y.f3) (hc' : y.f3.length ≤ c') => Put_calls ky y A' c' 0 W hC hc' p4 hky (fun _ => by omega)
          rw [putB_ok, show (⟨(encS y).toArray⟩ : ByteArray) = s.extract pos tq from p6] at hpy
          have HPY := Lib.hid hpy
          have g1 : ¬ (pos : Int) < 0 := by omega
          have g2 : ¬ (tq : Int) ≤ (pos : Int) := by omega
          have g3 : ¬ (tq : Int) > (s.size : Int) := by omega
          have g4 : pos ≤ tq := by omega
          clear hn hnr hky hpy p1 p4 p5 p6 p7 hx hd hp
          go_wp2_with fail
          refine (HN.out wc).mono ?_
          rintro e W4 ⟨v, rfl, hR, hb⟩
          obtain ⟨A1, c1, rfl⟩ := R_slice hR
          obtain ⟨hC1, hc1⟩ := R_C hR
          obtain ⟨X1, hX1⟩ : ∃ X1, X1 = W4.alloc (.cells #[.int .i64 y.f0, .int .i64 y.f1, .string y.f2, .slice A1 y.f3.length c1] 25) := ⟨_, rfl⟩
          obtain ⟨Bx, G1, E1⟩ := made_cell hX1
          have C1 := Lib.hid (Kd.C_below hC1 Bx)
          have B34 := hb.trans (Bx.mono hb.size)
          have HX1 := Lib.hid hX1
          have HB4 := Lib.hid (HB3.out.trans (B34.mono HB3.out.size))
          have HGX := Lib.hid G1
          have d0 : X1.cell? ⟨W4.heap.size, 0, none⟩ = some (.int .i64 y.f0) := by rw [Lib.cell_of_heap HGX.out]; rfl
          have d1 : X1.cell? ⟨W4.heap.size, 1, none⟩ = some (.int .i64 y.f1) := by rw [Lib.cell_of_heap HGX.out]; rfl
          have d2 : X1.cell? ⟨W4.heap.size, 2, none⟩ = some (.string y.f2) := by rw [Lib.cell_of_heap HGX.out]; rfl
          have d3 : X1.cell? ⟨W4.heap.size, 3, none⟩ = some (.slice A1 y.f3.length c1) := by rw [Lib.cell_of_heap HGX.out]; rfl
          rw [hX1] at d0 d1 d2 d3
          clear hb hR hC1 Bx G1 E1 B34 hX1
          go_wp2_with fail
          rw [← HX1.out]
          clear d0 d1 d2 d3
          refine (HPY.out X1 A1 c1 C1.out hc1).mono ?_
          rintro e W5 ⟨rfl, hb⟩
          have HB5 := Lib.hid (HB4.out.trans (hb.mono HB4.out.size))
          clear hb
          go_wp2_with fail
          refine (LV.out W5 HB5.out).mono ?_
          rintro e W6 ⟨rfl, hb6⟩
          go_wp2_with fail
          go_ret
          exact ⟨rfl, hb6⟩
        · have hz := next_zero (s := s) (a := a) (by rw [hnr]; exact he0)
          rw [hnr] at hz
          simp only at hz
          subst hz
          obtain ⟨k3, hk3⟩ := Same_self z25 wfW_z
          have HSM := Lib.hid (fun W A' c' (hC : Kd.C k25 W A' 0 []) => fastiref04_Same.calls k3 0 0 ⟨#[]⟩ A' c' [] 0 0 ⟨#[]⟩ none 0 [] true W hC (Nat.zero_le _) (Kd.C_nil _ _) (Nat.le_refl _) hk3)
          have g0 : ((e0 : Int) == 0) = false := by rw [beq_eq_false_iff_ne]; omega
          have g1 : ((e0 : Int) != 0) = true := by rw [bne_iff_ne]; omega
          have hn' : ∀ W, Calls Try.prog 19 #[.string s, .int .i64 a] W fun e w' => ∃ v3, e = .returned (.tuple #[.agg #[.int .i64 0, .int .i64 0, .string (⟨#[]⟩ : ByteArray), v3], .int .i64 (tq : Int), .int .i64 (e0 : Int)]) ∧ Kd.R k25 25 w' W.heap.size (fun _ => True) v3 [] ∧ Below W.heap.size W w' := hn
          have HN' := Lib.hid hn'
          clear hn hnr hk3 hn' he0 hx hd hp
          go_wp2_with fail
          refine (HN'.out wc).mono ?_
          rintro e W4 ⟨v, rfl, hR, hb⟩
          obtain ⟨A1, c1, rfl⟩ := R_slice hR
          obtain ⟨hC1, hc1⟩ := R_C hR
          obtain ⟨X1, hX1⟩ : ∃ X1, X1 = W4.alloc (.cells #[.int .i64 0, .int .i64 0, .string (⟨#[]⟩ : ByteArray), .slice A1 0 c1] 25) := ⟨_, rfl⟩
          obtain ⟨Bx, G1, E1⟩ := made_cell hX1
          have C1 := Lib.hid (Kd.C_below hC1 Bx)
          have B34 := hb.trans (Bx.mono hb.size)
          have HX1 := Lib.hid hX1
          have HB4 := Lib.hid (HB3.out.trans (B34.mono HB3.out.size))
          have HGX := Lib.hid G1
          have d0 : X1.cell? ⟨W4.heap.size, 0, none⟩ = some (.int .i64 0) := by rw [Lib.cell_of_heap HGX.out]; rfl
          have d1 : X1.cell? ⟨W4.heap.size, 1, none⟩ = some (.int .i64 0) := by rw [Lib.cell_of_heap HGX.out]; rfl
          have d2 : X1.cell? ⟨W4.heap.size, 2, none⟩ = some (.string (⟨#[]⟩ : ByteArray)) := by rw [Lib.cell_of_heap HGX.out]; rfl
          have d3 : X1.cell? ⟨W4.heap.size, 3, none⟩ = some (.slice A1 0 c1) := by rw [Lib.cell_of_heap HGX.out]; rfl
          rw [hX1] at d0 d1 d2 d3
          clear hb hR hC1 Bx G1 E1 B34 hX1
          go_wp2_with fail
          rw [← HX1.out]
          clear d0 d1 d2 d3
          refine (HSM.out X1 A1 c1 C1.out).mono ?_
          rintro e W5 ⟨rfl, hb⟩
          have HB5 := Lib.hid (HB4.out.trans (hb.mono HB4.out.size))
          clear hb
          go_wp2_with fail
          refine (LV.out W5 HB5.out).mono ?_
          rintro e W6 ⟨rfl, hb6⟩
          go_wp2_with fail
          go_ret
          exact ⟨rfl, hb6⟩
end Go.Proofs.Ytjelpapcboiimaa.PCellPuts
