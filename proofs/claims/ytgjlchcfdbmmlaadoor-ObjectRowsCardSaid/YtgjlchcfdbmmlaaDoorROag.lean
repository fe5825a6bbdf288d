/- Texts of one proof, joined: TOA, TOB. -/
import Derived.Test.YtgjlchcfdbmmlaaDoorRVg
import Derived.Test.YtgjlchcfdbmmlaaDoorRXg
set_option linter.unusedSimpArgs false
set_option linter.unusedVariables false
/- value.Check walked. -/
namespace Go.Proofs.YtgjlchcfdbmmlaaDoor.PObjectTakes
open Go.RowKit Go.Proofs.YtgjlchcfdbmmlaaDoor.Ord Go.Proofs.YtgjlchcfdbmmlaaDoor.Obj Go.Proofs.YtgjlchcfdbmmlaaDoorW.PrintWords Go.Proofs.YtgjlchcfdbmmlaaDoorW.PrintLast Go.Proofs.YtgjlchcfdbmmlaaDoorW.PrintMore
set_option linter.unusedVariables false
set_option linter.unusedSimpArgs false
attribute [local irreducible] OpGives

/-- Is a value right? -/
def okV (v : S53) : Bool := if v.f0 = 1 then decide (v.f2.size = 0) else if v.f0 = 2 then decide (v.f1 = 0) && (decide (v.f2.size ≤ 40) && (runesN v.f2).isSome) else false
set_option maxHeartbeats 8000000 in
set_option maxRecDepth 100000 in
theorem vcheck_calls (k n : Int) (s : ByteArray) (w : World) (hT : Lib.Utf8Tabs 0 1 w) :
    Calls Tryd.prog 59 #[.agg #[.int .i64 k, .int .i64 n, .string s]] w fun e w' => e = .returned (.int .i64 (if okV ⟨k, n, s⟩ then 0 else 2)) ∧ Below w.heap.size w w' := by
  obtain ⟨W1, hW1⟩ : ∃ W1, W1 = w.alloc (.cells #[.int .i64 k, .int .i64 n, .string s] 53) := ⟨_, rfl⟩
  have hn1 : Below w.heap.size w W1 := by rw [hW1]; exact (Below.refl _ _).alloc (Nat.le_refl _) _
  have hg1 : W1.heap[w.heap.size]? = some (.cells #[.int .i64 k, .int .i64 n, .string s] 53 (0, 0)) := by rw [hW1]; exact alloc_lastV _ _
  have c0 : W1.cell? ⟨w.heap.size, 0, none⟩ = some (.int .i64 k) := by rw [Lib.cell_of_heap hg1]; rfl
  have c1 : W1.cell? ⟨w.heap.size, 1, none⟩ = some (.int .i64 n) := by rw [Lib.cell_of_heap hg1]; rfl
  have c2 : W1.cell? ⟨w.heap.size, 2, none⟩ = some (.string s) := by rw [Lib.cell_of_heap hg1]; rfl
  have HW1 := Lib.hid hW1
  have HN1 := Lib.hid hn1
  have hR := fun (h : s.size ≤ 40) => runes_calls s W1 (Utf8Tabs_below hT hn1) (by omega)
  have HR := Lib.hid hR
  rw [hW1] at c0 c1 c2
  clear hW1 hn1 hg1 hR
  unfold okV
  have etl : s.size ≠ 0 → (s.toList == ([] : List UInt8)) = false := fun h => by
    rw [beq_eq_false_iff_ne]; intro e; exact h (by rw [Lib.size_eq, ← Lib.toList_data, e]; rfl)
  by_cases hk1 : k = 1
  · subst hk1
    have e1 : ((1 : Int) == 1) = true := rfl
    simp only [if_true]
    by_cases hs : s.size = 0
    · obtain rfl : s = ⟨#[]⟩ := by
        rcases s with ⟨⟨l⟩⟩
        have : l.length = 0 := hs
        rw [List.eq_nil_of_length_eq_zero this]
      clear etl HR
      go_enter Tryd.func59, Tryd.ntmps59
      go_wp2_with fail
      rw [← HW1.out]
      go_ret
      exact ⟨rfl, HN1.out⟩
    · have hs' := etl hs
      have ed : decide (s.size = 0) = false := decide_eq_false hs
      clear etl HR
      go_enter Tryd.func59, Tryd.ntmps59
      go_wp2_with fail
      all_goals (rw [← HW1.out]; go_ret; exact ⟨rfl, HN1.out⟩)
  · have e1 : (k == 1) = false := by simpa using hk1
    rw [if_neg hk1]
    by_cases hk2 : k = 2
    · subst hk2
      simp only [if_true]
      have e2 : ((2 : Int) == 2) = true := rfl
      by_cases hn : n = 0
      · subst hn
        by_cases hs : s.size ≤ 40
        · have hs' : (s.size : Int) ≤ 40 := by omega
          have HR2 := Lib.hid (HR.out hs)
          have hrv : (0 ≤ runesV s) = ((runesN s).isSome = true) := by
            unfold runesV
            cases runesN s with
            | none => simp
            | some k => simp
          have hd : decide (s.size ≤ 40) = true := decide_eq_true hs
          clear etl HR
          rw [hd]
          generalize runesV s = rv at hrv HR2
          generalize (runesN s).isSome = ro at hrv
          have HRV := Lib.hid hrv
          clear hrv hd
          go_enter Tryd.func59, Tryd.ntmps59
          go_wp2_with fail
          rw [← HW1.out]
          refine HR2.out.mono ?_
          rintro e W2 ⟨rfl, hb2⟩
          have HF := Lib.hid (HN1.out.trans (hb2.mono HN1.out.size))
          clear hb2
          by_cases h0 : 0 ≤ rv
          · have hro : ro = true := by have := HRV.out; exact this ▸ h0
            subst hro
            go_wp2_with fail
            go_ret
            exact ⟨rfl, HF.out⟩
          · have hro : ro = false := by
              have := HRV.out
              cases ro
              · rfl
              · exact absurd (this.symm ▸ rfl) h0
            subst hro
            go_wp2_with fail
            go_ret
            exact ⟨rfl, HF.out⟩
        · have hs' : ¬ (s.size : Int) ≤ 40 := by omega
          have ed : decide (s.size ≤ 40) = false := decide_eq_false hs
          clear etl HR
          go_enter Tryd.func59, Tryd.ntmps59
          go_wp2_with fail
          all_goals (rw [← HW1.out]; go_ret; exact ⟨rfl, HN1.out⟩)
      · have ed : decide (n = 0) = false := decide_eq_false hn
        have en : (n == 0) = false := by simpa using hn
        clear etl HR
        go_enter Tryd.func59, Tryd.ntmps59
        go_wp2_with fail
        all_goals (rw [← HW1.out]; go_ret; exact ⟨rfl, HN1.out⟩)
    · have e2 : (k == 2) = false := by simpa using hk2
      rw [if_neg hk2]
      clear etl HR
      go_enter Tryd.func59, Tryd.ntmps59
      go_wp2_with fail
      all_goals (rw [← HW1.out]; go_ret; exact ⟨rfl, HN1.out⟩)
end Go.Proofs.YtgjlchcfdbmmlaaDoor.PObjectTakes
/- span.Check walked. -/
namespace Go.Proofs.YtgjlchcfdbmmlaaDoor.PObjectTakes
open Go.RowKit Go.Proofs.YtgjlchcfdbmmlaaDoor.Ord Go.Proofs.YtgjlchcfdbmmlaaDoor.Obj Go.Proofs.YtgjlchcfdbmmlaaDoorW.PrintWords Go.Proofs.YtgjlchcfdbmmlaaDoorW.PrintLast Go.Proofs.YtgjlchcfdbmmlaaDoorW.PrintMore
set_option linter.unusedVariables false
set_option linter.unusedSimpArgs false
attribute [local irreducible] OpGives

def isS (a b : Int) : Bool := decide (0 ≤ a) && (decide (a < b) && decide (b ≤ 1099511627776))
def sameV (x y : S53) : Bool := x.f0 == y.f0 && (x.f1 == y.f1 && (x.f2.toList == y.f2.toList))
/-- May a row stand behind another? -/
def nextOk (p : Option S55) (x : S55) : Bool := match p with
  | none => true
  | some q => !(decide (x.f0 < q.f1) || (x.f0 == q.f1 && sameV x.f2 q.f2))
theorem nextOk_some (q x : S55) : nextOk (some q) x = !(decide (x.f0 < q.f1) || (x.f0 == q.f1 && sameV x.f2 q.f2)) := rfl
def rowsFrom : Option S55 → List S55 → Bool
  | _, [] => true
  | p, x :: xs => (isS x.f0 x.f1 && okV x.f2) && (nextOk p x && rowsFrom (some x) xs)
/-- Are rows right? -/
def okRows (l : List S55) : Bool := decide (l.length ≤ 64) && rowsFrom none l
def prevOf (l : List S55) (i : Nat) : Option S55 := if i = 0 then none else l[i - 1]?
theorem rowsFrom_step {l : List S55} {i : Nat} {x : S55} (h : l[i]? = some x) : rowsFrom (prevOf l i) (l.drop i) = ((isS x.f0 x.f1 && okV x.f2) && (nextOk (prevOf l i) x && rowsFrom (prevOf l (i + 1)) (l.drop (i + 1)))) := by
  obtain ⟨hi, hx⟩ := List.getElem?_eq_some_iff.1 h
  rw [List.drop_eq_getElem_cons hi, rowsFrom, hx]
  unfold prevOf
  rw [if_neg (by omega : ¬ i + 1 = 0), show i + 1 - 1 = i from rfl, h]
theorem rowsFrom_end (l : List S55) (p : Option S55) : rowsFrom p (l.drop l.length) = true := by rw [List.drop_length]; cases p <;> rfl
set_option maxRecDepth 100000 in
theorem is_calls (a b : Int) (w : World) : Calls Tryd.prog 58 #[.int .i64 a, .int .i64 b] w fun e w' => e = .returned (.bool (isS a b)) ∧ w' = w := by
  unfold isS
  by_cases h0 : 0 ≤ a
  · by_cases h1 : a < b
    · by_cases h2 : b ≤ 1099511627776
      · rw [decide_eq_true h0, decide_eq_true h1, decide_eq_true h2]
        go_enter Tryd.func58, Tryd.ntmps58
        go_wp2
        go_ret
        exact ⟨rfl, rfl⟩
      · rw [decide_eq_true h0, decide_eq_true h1, decide_eq_false h2]
        go_enter Tryd.func58, Tryd.ntmps58
        go_wp2
        go_ret
        exact ⟨rfl, rfl⟩
    · rw [decide_eq_true h0, decide_eq_false h1]
      go_enter Tryd.func58, Tryd.ntmps58
      go_wp2
      go_ret
      exact ⟨rfl, rfl⟩
  · rw [decide_eq_false h0]
    go_enter Tryd.func58, Tryd.ntmps58
    go_wp2
    go_ret
    exact ⟨rfl, rfl⟩
theorem eqV_run (d : Nat) (w : World) (x0 y0 : Int) (x1 y1 : Int) (x2 y2 : ByteArray) :
    (Op.equalIn (d + 2) 53 (.agg #[.int .i64 x0, .int .i64 x1, .string x2]) (.agg #[.int .i64 y0, .int .i64 y1, .string y2])).run Tryd.prog w = .ok (x0 == y0 && (x1 == y1 && (x2.toList == y2.toList))) w := by
  refine eqA_of Tryd.underlying53 (by kernel_rfl) ?_
  refine eqf_cons (by rfl) (by go_simp; rfl) (by go_simp; rfl) (by go_simp) ?_
  refine eqf_cons (by rfl) (by go_simp; rfl) (by go_simp; rfl) (by go_simp) ?_
  exact eqf_last (by rfl) (by go_simp; rfl) (by go_simp; rfl) (by go_simp)
theorem box5 {W : World} {g : Nat} {a b c d e : Value} (h : W.heap[g]? = some (.cells #[a, b, c, d, e] 55 (0, 0))) :
    W.cell? ⟨g, 0, none⟩ = some a ∧ W.cell? ⟨g, 1, none⟩ = some b ∧ W.cell? ⟨g, 2, none⟩ = some c ∧ W.cell? ⟨g, 3, none⟩ = some d ∧ W.cell? ⟨g, 4, none⟩ = some e := by
  refine ⟨?_, ?_, ?_, ?_, ?_⟩ <;> (rw [Lib.cell_of_heap h]; rfl)
attribute [local go_sem high] eqV_run
theorem row_at {w : World} {A : Option Addr} {l : List S55} {i : Nat} {x : S55} (h : Kd.C k55 w A l.length l) (hx : l[i]? = some x) :
    ∃ ad, A = some ad ∧ w.cell? (ad.add (i * 5)) = some (.int .i64 x.f0) ∧ w.cell? ⟨(ad.add (i * 5)).block, (ad.add (i * 5)).off + 1, none⟩ = some (.int .i64 x.f1) ∧ w.cell? ⟨(ad.add (i * 5)).block, (ad.add (i * 5)).off + 2, none⟩ = some (.int .i64 x.f2.f0) ∧ w.cell? ⟨(ad.add (i * 5)).block, (ad.add (i * 5)).off + 3, none⟩ = some (.int .i64 x.f2.f1) ∧ w.cell? ⟨(ad.add (i * 5)).block, (ad.add (i * 5)).off + 4, none⟩ = some (.string x.f2.f2) ∧ (ad.add (i * 5)).block < w.heap.size := by
  have hi : i < l.length := (List.getElem?_eq_some_iff.1 hx).1
  obtain ⟨ad, e, c0, c1, c2, c3, c4⟩ := at_T55 h (i : Int) (by omega) (by omega)
  have hrd : rd_T55 l (i : Int) = x := by unfold rd_T55; rw [Int.toNat_natCast, List.getD_eq_getElem?_getD, hx]; rfl
  rw [hrd] at c0 c1 c2 c3 c4
  rw [Int.toNat_natCast] at c0 c1 c2 c3 c4
  exact ⟨ad, e, c0, c1, c2, c3, c4, block_lt_of_cell c0⟩
set_option maxHeartbeats 8000000 in
set_option maxRecDepth 100000 in
theorem scheck_calls (l : List S55) (A : Option Addr) (c : Nat) (w : World) (hA : Kd.C k55 w A l.length l) (hc : l.length ≤ c) (hT : Lib.Utf8Tabs 0 1 w) :
    Calls Tryd.prog 36 #[.slice A l.length c] w fun e w' => e = .returned (.int .i64 (if okRows l then 0 else 2)) ∧ Below w.heap.size w w' := by
  have HA := Lib.hid hA
  have HT := Lib.hid hT
  clear hA hT
  unfold okRows
  by_cases hl : l.length ≤ 64
  · have hl' : ¬ (64 : Int) < (l.length : Int) := by omega
    rw [decide_eq_true hl, Bool.true_and]
    obtain ⟨R, hR⟩ : ∃ R, R = rowsFrom none l := ⟨_, rfl⟩
    rw [← hR]
    have hrel0 : R = rowsFrom (prevOf l 0) (l.drop 0) := hR
    obtain ⟨RV, hRV⟩ : ∃ RV : Int, RV = if R then 0 else 2 := ⟨_, rfl⟩
    rw [← hRV]
    have HRV := Lib.hid hRV
    clear hRV
    have HR := Lib.hid hrel0
    clear hR hrel0
    go_enter Tryd.func36, Tryd.ntmps36
    go_wp2_with fail
    go_loopw [11] (fun v wr => ∃ i : Nat, v = .int .i64 (i : Int) ∧ i ≤ l.length ∧ Hid (R = rowsFrom (prevOf l i) (l.drop i)) ∧ Below w.heap.size w wr) (fun v _ => l.length - (intOf v).toNat)
    case atStart => exact ⟨0, rfl, Nat.zero_le _, HR, Below.refl _ _⟩
    case round =>
      obtain ⟨i, rfl, hi, hr, hbe⟩ := hrel
      have HBE := Lib.hid hbe
      clear hbe
      by_cases hil : i < l.length
      · obtain ⟨x, hx⟩ : ∃ x, l[i]? = some x := ⟨_, List.getElem?_eq_getElem hil⟩
        obtain ⟨ad, rfl, c0, c1, c2, c3, c4, hbk⟩ := row_at (Kd.C_below HA.out HBE.out) hx
        have hst := rowsFrom_step hx
        have hr2 := hr.out
        rw [hst] at hr2
        have HR2 := Lib.hid hr2
        have HX := Lib.hid hx
        clear hst hr2 hr hx
        go_wp2_with fail
        obtain ⟨W1, hW1⟩ : ∃ W1, W1 = wr.alloc (.cells #[.int .i64 x.f0, .int .i64 x.f1, .int .i64 x.f2.f0, .int .i64 x.f2.f1, .string x.f2.f2] 55) := ⟨_, rfl⟩
        rw [← hW1]
        have hn1 : Below wr.heap.size wr W1 := by rw [hW1]; exact (Below.refl _ _).alloc (Nat.le_refl _) _
        have hg1 : W1.heap[wr.heap.size]? = some (.cells #[.int .i64 x.f0, .int .i64 x.f1, .int .i64 x.f2.f0, .int .i64 x.f2.f1, .string x.f2.f2] 55 (0, 0)) := by rw [hW1]; exact alloc_lastV _ _
        have hb1 : Below w.heap.size w W1 := HBE.out.trans (hn1.mono HBE.out.size)
        have HB1 := Lib.hid hb1
        have HG1 := Lib.hid hg1
        have hv := vcheck_calls x.f2.f0 x.f2.f1 x.f2.f2 W1 (Utf8Tabs_below HT.out hb1)
        obtain ⟨d0, d1, d2, d3, d4⟩ := box5 hg1
        have HV := Lib.hid hv
        clear hW1 hn1 hg1 hb1 hv c0 c1 c2 c3 c4 hbk
        refine (is_calls x.f0 x.f1 W1).mono ?_
        rintro e W2 ⟨rfl, rfl⟩
        cases hIs : isS x.f0 x.f1 with
        | false =>
          have hR2 := HR2.out
          rw [hIs, Bool.false_and, Bool.false_and] at hR2
          have HR3 := Lib.hid hR2
          clear hR2
          go_wp2_with fail
          go_ret
          exact ⟨by rw [HRV.out, HR3.out]; rfl, HB1.out⟩
        | true =>
          have hR2 := HR2.out
          rw [hIs, Bool.true_and] at hR2
          have HR3 := Lib.hid hR2
          clear hR2 hIs
          go_wp2_with fail
          refine HV.out.mono ?_
          rintro e W3 ⟨rfl, hb3⟩
          have hB3 : Below w.heap.size w W3 := HB1.out.trans (hb3.mono HB1.out.size)
          have hg3 := (hb3.block _ (Array.getElem?_eq_some_iff.1 HG1.out).1).trans HG1.out
          have HB3 := Lib.hid hB3
          have HG3 := Lib.hid hg3
          clear d0 d1 d2 d3 d4 hb3
          obtain ⟨d0, d1, d2, d3, d4⟩ := box5 hg3
          clear hg3 hB3
          cases hOk : okV ⟨x.f2.f0, x.f2.f1, x.f2.f2⟩ with
          | false =>
            have hR3 := HR3.out
            rw [show okV x.f2 = false from hOk, Bool.false_and] at hR3
            have HR4 := Lib.hid hR3
            clear hR3
            go_wp2_with fail
            go_ret
            exact ⟨by rw [HRV.out, HR4.out]; rfl, HB3.out⟩
          | true =>
            have hR3 := HR3.out
            rw [show okV x.f2 = true from hOk, Bool.true_and] at hR3
            have HR4 := Lib.hid hR3
            clear hR3 hOk
            rcases Nat.eq_zero_or_pos i with hi0 | hi0
            · subst hi0
              go_wp2_with fail
              go_roundw
              case rel => exact ⟨1, rfl, hil, Lib.hid HR4.out, HB3.out⟩
              case measure => simp [intOf]; omega
            · obtain ⟨k, rfl⟩ : ∃ k, i = k + 1 := ⟨i - 1, by omega⟩
              obtain ⟨q, hq⟩ : ∃ q, l[k]? = some q := ⟨_, List.getElem?_eq_getElem (by omega)⟩
              obtain ⟨ad', e', b0, b1, b2, b3, b4, hbk'⟩ := row_at (Kd.C_below HA.out HB3.out) hq
              cases e'
              have hpv : prevOf l (k + 1) = some q := by unfold prevOf; rw [if_neg (by omega), show k + 1 - 1 = k from rfl, hq]
              have hR4 := HR4.out
              rw [hpv] at hR4
              have HR5 := Lib.hid hR4
              clear hR4 hq hpv
              obtain ⟨W4, hW4⟩ : ∃ W4, W4 = W3.alloc (.cells #[.int .i64 q.f0, .int .i64 q.f1, .int .i64 q.f2.f0, .int .i64 q.f2.f1, .string q.f2.f2] 55) := ⟨_, rfl⟩
              have hn4 : Below W3.heap.size W3 W4 := by rw [hW4]; exact (Below.refl _ _).alloc (Nat.le_refl _) _
              have hg4 : W4.heap[W3.heap.size]? = some (.cells #[.int .i64 q.f0, .int .i64 q.f1, .int .i64 q.f2.f0, .int .i64 q.f2.f1, .string q.f2.f2] 55 (0, 0)) := by rw [hW4]; exact alloc_lastV _ _
              have hg5 := (hn4.block _ (Array.getElem?_eq_some_iff.1 HG3.out).1).trans HG3.out
              obtain ⟨e0, e1, e2, e3, e4⟩ := box5 hg4
              obtain ⟨f0, f1, f2, f3, f4⟩ := box5 hg5
              have HB4 := Lib.hid (HB3.out.trans (hn4.mono HB3.out.size))
              rw [hW4] at e0 e1 e2 e3 e4 f0 f1 f2 f3 f4
              have HW4 := Lib.hid hW4
              clear hW4 hn4 hg4 hg5
              by_cases hlt : x.f0 < q.f1
              · have hR5 := HR5.out
                rw [show nextOk (some q) x = false from by rw [nextOk_some, decide_eq_true hlt]; rfl] at hR5
                have HR6 := Lib.hid hR5
                clear hR5
                go_wp2_with fail
                rw [← HW4.out]
                go_ret
                exact ⟨by rw [HRV.out, HR6.out]; rfl, HB4.out⟩
              · by_cases heq : x.f0 = q.f1
                · obtain ⟨sv, hsv⟩ : ∃ sv, sv = (x.f2.f0 == q.f2.f0 && (x.f2.f1 == q.f2.f1 && (x.f2.f2.toList == q.f2.f2.toList))) := ⟨_, rfl⟩
                  have hR5 := HR5.out
                  rw [show nextOk (some q) x = !sv from by rw [nextOk_some, decide_eq_false hlt, heq, hsv]; simp [sameV]] at hR5
                  have HR6 := Lib.hid hR5
                  have heqb : (x.f0 == q.f1) = true := by simpa using heq
                  clear hR5 heq
                  cases sv with
                  | true =>
                    have hsv' := hsv.symm
                    clear hsv
                    go_wp2_with fail
                    rw [← HW4.out]
                    go_ret
                    exact ⟨by rw [HRV.out, HR6.out]; rfl, HB4.out⟩
                  | false =>
                    have hsv' := hsv.symm
                    clear hsv
                    have hR6 := HR6.out
                    rw [Bool.not_false, Bool.true_and] at hR6
                    have HR7 := Lib.hid hR6
                    clear hR6
                    go_wp2_with fail
                    rw [← HW4.out]
                    go_roundw
                    case rel => exact ⟨k + 1 + 1, by go_num, hil, Lib.hid HR7.out, HB4.out⟩
                    case measure => simp [intOf]; omega
                · have hR5 := HR5.out
                  have heqb : (x.f0 == q.f1) = false := by simpa using heq
                  rw [show nextOk (some q) x = true from by rw [nextOk_some, decide_eq_false hlt, heqb]; rfl, Bool.true_and] at hR5
                  have HR6 := Lib.hid hR5
                  clear hR5
                  go_wp2_with fail
                  rw [← HW4.out]
                  go_roundw
                  case rel => exact ⟨k + 1 + 1, by go_num, hil, Lib.hid HR6.out, HB4.out⟩
                  case measure => simp [intOf]; omega
      · have hie : i = l.length := by omega
        have hR2 := hr.out
        rw [hie, rowsFrom_end] at hR2
        have HR3 := Lib.hid hR2
        clear hR2 hr hie
        go_wp2_with fail
        go_ret
        exact ⟨by rw [HRV.out, HR3.out]; rfl, HBE.out⟩
  · have hl' : (64 : Int) < (l.length : Int) := by omega
    rw [decide_eq_false hl]
    go_enter Tryd.func36, Tryd.ntmps36
    go_wp2_with fail
    go_ret
    exact ⟨rfl, Below.refl _ _⟩
end Go.Proofs.YtgjlchcfdbmmlaaDoor.PObjectTakes
