/- Texts of one proof, joined: TOC, TOD. -/
import Derived.Test.YtgjlchcfdbmmlaaDoorROag
set_option linter.unusedSimpArgs false
set_option linter.unusedVariables false
/- node.right walked. -/
namespace Go.Proofs.YtgjlchcfdbmmlaaDoor.PObjectTakes
open Go.RowKit Go.Proofs.YtgjlchcfdbmmlaaDoor.Ord Go.Proofs.YtgjlchcfdbmmlaaDoor.Obj Go.Proofs.YtgjlchcfdbmmlaaDoorW.PrintWords Go.Proofs.YtgjlchcfdbmmlaaDoorW.PrintLast Go.Proofs.YtgjlchcfdbmmlaaDoorW.PrintMore
set_option linter.unusedVariables false
set_option linter.unusedSimpArgs false
attribute [local irreducible] OpGives

/-- An object's parts. -/
structure Ob where
  kind : Int
  label : ByteArray
  rows : List S55
  kids : List S60
  parents : List ByteArray
  stamp : Int
  note : ByteArray
  root : ByteArray
/-- An object's cells. -/
def obV (o : Ob) (Ar : Option Addr) (cr : Nat) (Ak : Option Addr) (ck : Nat) (Ap : Option Addr) (cp : Nat) : Array Value :=
  #[.int .i64 o.kind, .string o.label, .slice Ar o.rows.length cr, .slice Ak o.kids.length ck, .slice Ap o.parents.length cp, .int .i64 o.stamp, .string o.note, .string o.root]
/-- An object's lists lie in memory. -/
structure ObAt (w : World) (o : Ob) (Ar : Option Addr) (cr : Nat) (Ak : Option Addr) (ck : Nat) (Ap : Option Addr) (cp : Nat) : Prop where
  r : Kd.C k55 w Ar o.rows.length o.rows
  lr : o.rows.length ≤ cr
  k : Kd.C k60 w Ak o.kids.length o.kids
  lk : o.kids.length ≤ ck
  p : Kd.C Kd.string w Ap o.parents.length o.parents
  lp : o.parents.length ≤ cp
theorem ObAt.below {w w' : World} {o : Ob} {Ar : Option Addr} {cr : Nat} {Ak : Option Addr} {ck : Nat} {Ap : Option Addr} {cp : Nat} (h : ObAt w o Ar cr Ak ck Ap cp) (hb : Below w.heap.size w w') : ObAt w' o Ar cr Ak ck Ap cp :=
  ⟨Kd.C_below h.r hb, h.lr, Kd.C_below h.k hb, h.lk, Kd.C_below h.p hb, h.lp⟩
def kidNext (p : Option S60) (x : S60) : Bool := match p with | none => true | some q => decide (q.f0 < x.f0)
def kidsFrom : Option S60 → List S60 → Bool
  | _, [] => true
  | p, x :: xs => decide (x.f1.size = 32) && (kidNext p x && kidsFrom (some x) xs)
def prevKid (l : List S60) (i : Nat) : Option S60 := if i = 0 then none else l[i - 1]?
theorem kidsFrom_step {l : List S60} {i : Nat} {x : S60} (h : l[i]? = some x) : kidsFrom (prevKid l i) (l.drop i) = (decide (x.f1.size = 32) && (kidNext (prevKid l i) x && kidsFrom (prevKid l (i + 1)) (l.drop (i + 1)))) := by
  obtain ⟨hi, hx⟩ := List.getElem?_eq_some_iff.1 h
  rw [List.drop_eq_getElem_cons hi, kidsFrom, hx]
  unfold prevKid
  rw [if_neg (by omega : ¬ i + 1 = 0), show i + 1 - 1 = i from rfl, h]
theorem kidsFrom_end (l : List S60) (p : Option S60) : kidsFrom p (l.drop l.length) = true := by rw [List.drop_length]; cases p <;> rfl
/-- Is a node right? -/
def okNode (o : Ob) : Bool :=
  decide (o.parents.length = 0) && (decide (o.stamp = 0) && (decide (o.note.size = 0) && (decide (o.root.size = 0) && (decide (o.label.size ≤ 24) && (okRows o.rows && kidsFrom none o.kids)))))
theorem box8 {W : World} {g : Nat} {t : TypeId} {a b c d e f h i : Value} (hg : W.heap[g]? = some (.cells #[a, b, c, d, e, f, h, i] t (0, 0))) :
    (W.cell? ⟨g, 0, none⟩ = some a ∧ W.cell? ⟨g, 1, none⟩ = some b ∧ W.cell? ⟨g, 2, none⟩ = some c ∧ W.cell? ⟨g, 3, none⟩ = some d) ∧ W.cell? ⟨g, 4, none⟩ = some e ∧ W.cell? ⟨g, 5, none⟩ = some f ∧ W.cell? ⟨g, 6, none⟩ = some h ∧ W.cell? ⟨g, 7, none⟩ = some i := by
  refine ⟨⟨?_, ?_, ?_, ?_⟩, ?_, ?_, ?_, ?_⟩ <;> (rw [Lib.cell_of_heap hg]; rfl)
theorem box2 {W : World} {g : Nat} {t : TypeId} {a b : Value} (hg : W.heap[g]? = some (.cells #[a, b] t (0, 0))) : W.cell? ⟨g, 0, none⟩ = some a ∧ W.cell? ⟨g, 1, none⟩ = some b := by
  refine ⟨?_, ?_⟩ <;> (rw [Lib.cell_of_heap hg]; rfl)
theorem empty_str {s : ByteArray} (h : s.size = 0) : s = ⟨#[]⟩ := by
  rcases s with ⟨⟨l⟩⟩
  have : l.length = 0 := h
  rw [List.eq_nil_of_length_eq_zero this]
theorem full_str {s : ByteArray} (h : s.size ≠ 0) : (s.toList == ([] : List UInt8)) = false := by
  rw [beq_eq_false_iff_ne]; intro e; exact h (by rw [Lib.size_eq, ← Lib.toList_data, e]; rfl)
theorem kid_at {w : World} {A : Option Addr} {l : List S60} {i : Nat} {x : S60} (h : Kd.C k60 w A l.length l) (hx : l[i]? = some x) :
    ∃ ad, A = some ad ∧ w.cell? (ad.add (i * 2)) = some (.int .u8 x.f0) ∧ w.cell? ⟨(ad.add (i * 2)).block, (ad.add (i * 2)).off + 1, none⟩ = some (.string x.f1) ∧ (ad.add (i * 2)).block < w.heap.size := by
  have hi : i < l.length := (List.getElem?_eq_some_iff.1 hx).1
  obtain ⟨ad, e, c0, c1⟩ := at_T60 h (i : Int) (by omega) (by omega)
  have hrd : rd_T60 l (i : Int) = x := by unfold rd_T60; rw [Int.toNat_natCast, List.getD_eq_getElem?_getD, hx]; rfl
  rw [hrd] at c0 c1
  rw [Int.toNat_natCast] at c0 c1
  exact ⟨ad, e, c0, c1, block_lt_of_cell c0⟩
set_option maxHeartbeats 8000000 in
set_option maxRecDepth 100000 in
theorem nright_calls (o : Ob) (Ar : Option Addr) (cr : Nat) (Ak : Option Addr) (ck : Nat) (Ap : Option Addr) (cp : Nat) (w : World) (hO : ObAt w o Ar cr Ak ck Ap cp) (hT : Lib.Utf8Tabs 0 1 w) :
    Calls Tryd.prog 108 #[.agg (obV o Ar cr Ak ck Ap cp)] w fun e w' => e = .returned (.bool (okNode o)) ∧ Below w.heap.size w w' := by
  obtain ⟨RV, hRV⟩ : ∃ RV, RV = okNode o := ⟨_, rfl⟩
  rw [← hRV]
  obtain ⟨knd, lab, rws, kds, prs, stp, nte, rot⟩ := o
  unfold okNode at hRV
  unfold obV
  simp only at hRV hO ⊢
  have hOr := hO.r
  have hOlr := hO.lr
  have hOk := hO.k
  clear hO
  simp only at hOr hOlr hOk
  generalize prs.length = pl at hRV ⊢
  obtain ⟨W1, hW1⟩ : ∃ W1, W1 = w.alloc (.cells #[.int .i64 knd, .string lab, .slice Ar rws.length cr, .slice Ak kds.length ck, .slice Ap pl cp, .int .i64 stp, .string nte, .string rot] 86) := ⟨_, rfl⟩
  have hn1 : Below w.heap.size w W1 := by rw [hW1]; exact (Below.refl _ _).alloc (Nat.le_refl _) _
  have hg1 : W1.heap[w.heap.size]? = some (.cells #[.int .i64 knd, .string lab, .slice Ar rws.length cr, .slice Ak kds.length ck, .slice Ap pl cp, .int .i64 stp, .string nte, .string rot] 86 (0, 0)) := by rw [hW1]; exact alloc_lastV _ _
  obtain ⟨⟨b0, b1, b2, b3⟩, b4, b5, b6, b7⟩ := box8 hg1
  have hS := scheck_calls rws Ar cr W1 (Kd.C_below hOr hn1) hOlr (Utf8Tabs_below hT hn1)
  have HS := Lib.hid hS
  have HK := Lib.hid (Kd.C_below hOk hn1)
  have HN1 := Lib.hid hn1
  have HG1 := Lib.hid hg1
  have HRV := Lib.hid hRV
  rw [hW1] at b0 b1 b2 b3 b4 b5 b6 b7
  have HW1 := Lib.hid hW1
  clear hW1 hn1 hg1 hOr hOlr hOk hT hRV hS
  by_cases h1 : pl = 0
  · subst h1
    by_cases h2 : stp = 0
    · subst h2
      by_cases h3 : nte.size = 0
      · obtain rfl := empty_str h3
        by_cases h4 : rot.size = 0
        · obtain rfl := empty_str h4
          by_cases h5 : lab.size ≤ 24
          · have h5' : ¬ (24 : Int) < (lab.size : Int) := by omega
            have hRV2 := HRV.out
            rw [decide_eq_true h3, decide_eq_true h5] at hRV2
            simp only [decide_true, Bool.true_and] at hRV2
            have HRV2 := Lib.hid hRV2
            clear hRV2 HRV
            go_enter Tryd.func108, Tryd.ntmps108
            go_wp2_with fail
            rw [← HW1.out]
            clear b0 b1 b2 b3 b4 b5 b6 b7
            refine HS.out.mono ?_
            rintro e W2 ⟨rfl, hb2⟩
            have hg2 := (hb2.block _ (Array.getElem?_eq_some_iff.1 HG1.out).1).trans HG1.out
            have hB2 := HN1.out.trans (hb2.mono HN1.out.size)
            have hK2 := Kd.C_below HK.out hb2
            obtain ⟨⟨b0, b1, b2, b3⟩, b4, b5, b6, b7⟩ := box8 hg2
            have HB2 := Lib.hid hB2
            have HG2 := Lib.hid hg2
            have HK2 := Lib.hid hK2
            clear hb2 hg2 hB2 hK2
            cases hrw : okRows rws with
            | false =>
              have hRV3 := HRV2.out
              rw [hrw, Bool.false_and] at hRV3
              have HRV3 := Lib.hid hRV3
              clear hRV3 hrw
              go_wp2_with fail
              go_ret
              exact ⟨by rw [HRV3.out]; rfl, HB2.out⟩
            | true =>
              have hRV3 := HRV2.out
              rw [hrw, Bool.true_and] at hRV3
              have HRV3 := Lib.hid (show RV = kidsFrom (prevKid kds 0) (kds.drop 0) from hRV3)
              clear hRV3 hrw
              go_wp2_with fail
              clear b0 b1 b2 b3 b4 b5 b6 b7
              go_loopw [41] (fun v wr => ∃ i : Nat, v = .int .i64 (i : Int) ∧ i ≤ kds.length ∧ Hid (RV = kidsFrom (prevKid kds i) (kds.drop i)) ∧ Below W2.heap.size W2 wr) (fun v _ => kds.length - (intOf v).toNat)
              case atStart => exact ⟨0, rfl, Nat.zero_le _, HRV3, Below.refl _ _⟩
              case round =>
                obtain ⟨i, rfl, hi, hr, hbe⟩ := hrel
                have hgr := (hbe.block _ (Array.getElem?_eq_some_iff.1 HG2.out).1).trans HG2.out
                have hkr := Kd.C_below HK2.out hbe
                have HBE := Lib.hid (HB2.out.trans (hbe.mono HB2.out.size))
                have HBE2 := Lib.hid hbe
                by_cases hil : i < kds.length
                · obtain ⟨x, hx⟩ : ∃ x, kds[i]? = some x := ⟨_, List.getElem?_eq_getElem hil⟩
                  obtain ⟨ad, rfl, c0, c1, hbk⟩ := kid_at hkr hx
                  have hst := kidsFrom_step hx
                  have hr2 := hr.out
                  rw [hst] at hr2
                  have HR2 := Lib.hid hr2
                  obtain ⟨W3, hW3⟩ : ∃ W3, W3 = wr.alloc (.cells #[.int .u8 x.f0, .string x.f1] 60) := ⟨_, rfl⟩
                  have hn3 : Below wr.heap.size wr W3 := by rw [hW3]; exact (Below.refl _ _).alloc (Nat.le_refl _) _
                  have hg3 : W3.heap[wr.heap.size]? = some (.cells #[.int .u8 x.f0, .string x.f1] 60 (0, 0)) := by rw [hW3]; exact alloc_lastV _ _
                  have hgr3 := (hn3.block _ (Array.getElem?_eq_some_iff.1 hgr).1).trans hgr
                  have HB3 := Lib.hid (HBE.out.trans (hn3.mono HBE.out.size))
                  have HB32 := Lib.hid (HBE2.out.trans (hn3.mono HBE2.out.size))
                  have HK3 := Lib.hid (Kd.C_below hkr hn3)
                  obtain ⟨e0, e1⟩ := box2 hg3
                  have b3 : W3.cell? ⟨w.heap.size, 3, none⟩ = some (.slice (some ad) kds.length ck) := (box8 hgr3).1.2.2.2
                  have HW3 := Lib.hid hW3
                  clear hst hr2 hr hx hW3 hn3 hg3 hgr3 hgr hkr hbe
                  go_wp2_with fail
                  rw [← HW3.out]
                  clear c0 c1 hbk
                  by_cases h32 : x.f1.size = 32
                  · have h32' : ((x.f1.size : Int) == 32) = true := by rw [h32]; rfl
                    have hR2 := HR2.out
                    rw [decide_eq_true h32, Bool.true_and] at hR2
                    have HR3 := Lib.hid hR2
                    clear hR2
                    rcases Nat.eq_zero_or_pos i with hi0 | hi0
                    · subst hi0
                      have hR3 := HR3.out
                      rw [show kidNext (prevKid kds 0) x = true from rfl, Bool.true_and] at hR3
                      have HR4 := Lib.hid hR3
                      clear hR3
                      go_quiet (fail)
                      go_wp2_with fail
                      go_roundw
                      case rel => exact ⟨1, rfl, hil, Lib.hid HR4.out, pw_below_drewN HB32.out _⟩
                      case measure => simp [intOf]; omega
                    · obtain ⟨k, rfl⟩ : ∃ k, i = k + 1 := ⟨i - 1, by omega⟩
                      obtain ⟨q, hq⟩ : ∃ q, kds[k]? = some q := ⟨_, List.getElem?_eq_getElem (by omega)⟩
                      obtain ⟨ad', e', c0, c1, hbk'⟩ := kid_at HK3.out hq
                      cases e'
                      have hpv : prevKid kds (k + 1) = some q := by unfold prevKid; rw [if_neg (by omega), show k + 1 - 1 = k from rfl, hq]
                      have hR4 := HR3.out
                      rw [hpv, show kidNext (some q) x = decide (q.f0 < x.f0) from rfl] at hR4
                      have HR5 := Lib.hid hR4
                      clear hR4 hq hpv
                      have hgt : decide ((0 : Int) < (k : Int) + 1) = true := decide_eq_true (by omega)
                      have hlk : (k : Int) < (kds.length : Int) := by omega
                      have hmx := HK3.out.2.1
                      have hwk : IntKind.i64.wrap (k : Int) = (k : Int) := by rw [IntKind.wrap_i64]; omega
                      by_cases hlt : q.f0 < x.f0
                      · have hlt' : ¬ x.f0 ≤ q.f0 := by omega
                        have hR5 := HR5.out
                        rw [decide_eq_true hlt, Bool.true_and] at hR5
                        have HR6 := Lib.hid hR5
                        clear hR5
                        go_quiet (fail)
                        go_wp2_with fail
                        go_roundw
                        case rel => exact ⟨k + 1 + 1, by go_num, hil, Lib.hid HR6.out, pw_below_drewN HB32.out _⟩
                        case measure => simp [intOf]; omega
                      · have hlt' : x.f0 ≤ q.f0 := by omega
                        have hR5 := HR5.out
                        rw [decide_eq_false hlt, Bool.false_and] at hR5
                        have HR6 := Lib.hid hR5
                        clear hR5
                        go_quiet (fail)
                        go_wp2_with fail
                        go_ret
                        exact ⟨by rw [HR6.out]; rfl, pw_below_drewN HB3.out _⟩
                  · have h32n : ¬ (x.f1.size : Int) = 32 := by omega
                    have h32' : ((x.f1.size : Int) != 32) = true := by simpa using h32n
                    have hR2 := HR2.out
                    rw [decide_eq_false h32, Bool.false_and] at hR2
                    have HR3 := Lib.hid hR2
                    clear hR2
                    go_quiet (fail)
                    go_wp2_with fail
                    go_ret
                    exact ⟨by rw [HR3.out]; rfl, pw_below_drewN HB3.out _⟩
                · have hie : i = kds.length := by omega
                  have hR2 := hr.out
                  rw [hie, kidsFrom_end] at hR2
                  have HR3 := Lib.hid hR2
                  clear hR2 hr hie hbe hgr hkr
                  go_wp2_with fail
                  go_ret
                  exact ⟨by rw [HR3.out]; rfl, HBE.out⟩
          · have h5' : (24 : Int) < (lab.size : Int) := by omega
            go_enter Tryd.func108, Tryd.ntmps108
            go_wp2_with fail
            rw [← HW1.out]
            go_ret
            exact ⟨by rw [HRV.out, decide_eq_false h5]; simp, HN1.out⟩
        · have h4' := full_str h4
          go_enter Tryd.func108, Tryd.ntmps108
          go_wp2_with fail
          rw [← HW1.out]
          go_ret
          exact ⟨by rw [HRV.out, decide_eq_false h4]; simp, HN1.out⟩
      · have h3' := full_str h3
        go_enter Tryd.func108, Tryd.ntmps108
        go_wp2_with fail
        rw [← HW1.out]
        go_ret
        exact ⟨by rw [HRV.out, decide_eq_false h3]; simp, HN1.out⟩
    · have h2' : (stp == 0) = false := by simpa using h2
      go_enter Tryd.func108, Tryd.ntmps108
      go_wp2_with fail
      rw [← HW1.out]
      go_ret
      exact ⟨by rw [HRV.out, decide_eq_false h2]; simp, HN1.out⟩
  · have h1' : (0 : Int) < (pl : Int) := by omega
    go_enter Tryd.func108, Tryd.ntmps108
    go_wp2_with fail
    rw [← HW1.out]
    go_ret
    exact ⟨by rw [HRV.out, decide_eq_false h1]; rfl, HN1.out⟩
end Go.Proofs.YtgjlchcfdbmmlaaDoor.PObjectTakes
/- commit.right walked. -/
namespace Go.Proofs.YtgjlchcfdbmmlaaDoor.PObjectTakes
open Go.RowKit Go.Proofs.YtgjlchcfdbmmlaaDoor.Ord Go.Proofs.YtgjlchcfdbmmlaaDoor.Obj Go.Proofs.YtgjlchcfdbmmlaaDoorW.PrintWords Go.Proofs.YtgjlchcfdbmmlaaDoorW.PrintLast Go.Proofs.YtgjlchcfdbmmlaaDoorW.PrintMore
set_option linter.unusedVariables false
set_option linter.unusedSimpArgs false
attribute [local irreducible] OpGives

theorem str_at {w : World} {A : Option Addr} {l : List ByteArray} {i : Nat} {x : ByteArray} (h : Kd.C Kd.string w A l.length l) (hx : l[i]? = some x) :
    ∃ ad, A = some ad ∧ w.cell? (ad.add i) = some (.string x) ∧ (ad.add i).block < w.heap.size := by
  have hi : i < l.length := (List.getElem?_eq_some_iff.1 hx).1
  obtain ⟨ad, c, e, _, hK, hc0⟩ := Kd.C_get h ByteArray.empty (i : Int) (by omega) (by omega)
  have hrd : l.getD (i : Int).toNat ByteArray.empty = x := by rw [Int.toNat_natCast, List.getD_eq_getElem?_getD, hx]; rfl
  rw [hrd] at hK
  have hk : c = [.string x] := hK
  subst hk
  have h0 := hc0 0 (.string x) rfl
  rw [Int.toNat_natCast] at h0
  have h1 : w.cell? (ad.add i) = some (.string x) := by
    rw [show Kd.string.sz = 1 from rfl, Nat.mul_one, Nat.add_zero] at h0
    exact h0
  exact ⟨ad, e, h1, block_lt_of_cell h1⟩
def wideB (s : ByteArray) : Bool := !(decide (s.size = 32))
set_option maxRecDepth 100000 in
theorem narrow_calls (s : ByteArray) (w : World) : Calls Tryd.prog 111 #[.string s] w fun e w' => e = .returned (.bool (wideB s)) ∧ w' = w := by
  unfold wideB
  by_cases h : s.size = 32
  · have h' : ((s.size : Int) != 32) = false := by rw [h]; rfl
    rw [decide_eq_true h]
    go_enter Tryd.func111, Tryd.ntmps111
    go_wp2
    go_ret
    exact ⟨rfl, rfl⟩
  · have h2 : ¬ (s.size : Int) = 32 := by omega
    have h' : ((s.size : Int) != 32) = true := by simpa using h2
    rw [decide_eq_false h]
    go_enter Tryd.func111, Tryd.ntmps111
    go_wp2
    go_ret
    exact ⟨rfl, rfl⟩
/-- Where the first string that is not wide stands; -1: none. -/
def narrowAt (l : List ByteArray) (i : Nat) : Nat → Int
  | 0 => -1
  | f + 1 => match l[i]? with | none => -1 | some s => if wideB s then (i : Int) else narrowAt l (i + 1) f
theorem narrow_ge (l : List ByteArray) : ∀ (f i : Nat), l.length = i + f → (0 ≤ narrowAt l i f ↔ (l.drop i).any wideB = true)
  | 0, i, h => by
    rw [List.drop_of_length_le (by omega)]; simp [narrowAt]
  | f + 1, i, h => by
    have hi : i < l.length := by omega
    rw [narrowAt, List.getElem?_eq_getElem hi, List.drop_eq_getElem_cons hi, List.any_cons]
    by_cases hw : wideB l[i] = true
    · simp [hw]
    · have := narrow_ge l f (i + 1) (by omega)
      simp [hw, this]
set_option maxHeartbeats 4000000 in
set_option maxRecDepth 100000 in
theorem index_calls (l : List ByteArray) (A : Option Addr) (c : Nat) (w : World) (hA : Kd.C Kd.string w A l.length l) :
    Calls Tryd.prog 113 #[.slice A l.length c, .func (.func 111) #[] #[]] w fun e w' => e = .returned (.int .i64 (narrowAt l 0 l.length)) ∧ w' = w := by
  obtain ⟨RV, hRV⟩ : ∃ RV, RV = narrowAt l 0 l.length := ⟨_, rfl⟩
  rw [← hRV]
  have HRV := Lib.hid hRV
  have HA := Lib.hid hA
  have hmx := hA.2.1
  clear hA hRV
  go_enter Tryd.func113, Tryd.ntmps113
  go_wp2_with fail
  go_loopw [8] (fun v wr => ∃ i : Nat, v = .int .i64 (i : Int) ∧ i ≤ l.length ∧ Hid (RV = narrowAt l i (l.length - i)) ∧ wr = w) (fun v _ => l.length - (intOf v).toNat)
  case atStart => exact ⟨0, rfl, Nat.zero_le _, HRV, rfl⟩
  case round =>
    obtain ⟨i, rfl, hi, hr, rfl⟩ := hrel
    by_cases hil : i < l.length
    · obtain ⟨x, hx⟩ : ∃ x, l[i]? = some x := ⟨_, List.getElem?_eq_getElem hil⟩
      obtain ⟨ad, rfl, c0, hbk⟩ := str_at HA.out hx
      have hr2 := hr.out
      rw [show l.length - i = (l.length - (i + 1)) + 1 by omega, narrowAt, hx] at hr2
      simp only at hr2
      have HR2 := Lib.hid hr2
      clear hr2 hr hx
      cases hw : wideB x with
      | true =>
        have hR2 := HR2.out
        rw [hw, if_pos rfl] at hR2
        have HR3 := Lib.hid hR2
        have HN := Lib.hid (narrow_calls x wr)
        rw [hw] at HN
        clear hR2 hw HR2
        go_wp2_with fail
        refine HN.out.mono ?_
        rintro e _ ⟨rfl, rfl⟩
        go_wp2_with fail
        go_ret
        exact ⟨by rw [HR3.out]; rfl, rfl⟩
      | false =>
        have hR2 := HR2.out
        rw [hw, if_neg (by decide)] at hR2
        have HR3 := Lib.hid hR2
        have HN := Lib.hid (narrow_calls x wr)
        rw [hw] at HN
        clear hR2 hw HR2
        go_wp2_with fail
        refine HN.out.mono ?_
        rintro e _ ⟨rfl, rfl⟩
        go_wp2_with fail
        go_roundw
        case rel => exact ⟨i + 1, by go_num, hil, HR3, trivial⟩
        case measure => simp [intOf]; omega
    · have hie : l.length - i = 0 := by omega
      have hR2 := hr.out
      rw [hie] at hR2
      have HR3 := Lib.hid hR2
      clear hR2 hr hie
      go_wp2_with fail
      go_ret
      exact ⟨by rw [HR3.out]; rfl, rfl⟩
set_option maxHeartbeats 4000000 in
set_option maxRecDepth 100000 in
theorem contains_calls (l : List ByteArray) (A : Option Addr) (c : Nat) (w : World) (hA : Kd.C Kd.string w A l.length l) :
    Calls Tryd.prog 112 #[.slice A l.length c, .func (.func 111) #[] #[]] w fun e w' => e = .returned (.bool (l.any wideB)) ∧ w' = w := by
  have hge := narrow_ge l l.length 0 (by omega)
  rw [List.drop_zero] at hge
  have HI := Lib.hid (index_calls l A c w hA)
  generalize narrowAt l 0 l.length = n at hge HI
  have hv : decide (0 ≤ n) = l.any wideB := by rw [Bool.eq_iff_iff]; simpa using hge
  rw [← hv]
  clear hge hv
  go_enter Tryd.func112, Tryd.ntmps112
  go_wp2_with fail
  refine HI.out.mono ?_
  rintro e _ ⟨rfl, rfl⟩
  go_wp2_with fail
  go_ret
  exact ⟨rfl, rfl⟩
/-- Is a commit right? -/
def okCommit (o : Ob) : Bool :=
  decide (o.rows.length = 0) && (decide (o.kids.length = 0) && (decide (o.label.size = 0) && (decide (0 ≤ o.stamp) && (decide (o.stamp ≤ 1099511627776) && (decide (o.note.size ≤ 40) && (decide (o.root.size = 32) &&
    (decide (o.parents.length ≤ 2) && (!(o.parents.any wideB) && (decide (o.parents.length < 2) || !((o.parents.getD 0 ByteArray.empty).toList == (o.parents.getD 1 ByteArray.empty).toList))))))))))
set_option maxHeartbeats 16000000 in
set_option maxRecDepth 100000 in
theorem cright_calls (o : Ob) (Ar : Option Addr) (cr : Nat) (Ak : Option Addr) (ck : Nat) (Ap : Option Addr) (cp : Nat) (w : World) (hO : ObAt w o Ar cr Ak ck Ap cp) :
    Calls Tryd.prog 110 #[.agg (obV o Ar cr Ak ck Ap cp)] w fun e w' => e = .returned (.bool (okCommit o)) ∧ Below w.heap.size w w' := by
  obtain ⟨RV, hRV⟩ : ∃ RV, RV = okCommit o := ⟨_, rfl⟩
  rw [← hRV]
  obtain ⟨knd, lab, rws, kds, prs, stp, nte, rot⟩ := o
  unfold okCommit at hRV
  unfold obV
  simp only at hRV hO ⊢
  have hOp := hO.p
  clear hO
  simp only at hOp
  generalize rws.length = rl at hRV ⊢
  generalize kds.length = kl at hRV ⊢
  obtain ⟨W1, hW1⟩ : ∃ W1, W1 = w.alloc (.cells #[.int .i64 knd, .string lab, .slice Ar rl cr, .slice Ak kl ck, .slice Ap prs.length cp, .int .i64 stp, .string nte, .string rot] 87) := ⟨_, rfl⟩
  have hn1 : Below w.heap.size w W1 := by rw [hW1]; exact (Below.refl _ _).alloc (Nat.le_refl _) _
  have hg1 : W1.heap[w.heap.size]? = some (.cells #[.int .i64 knd, .string lab, .slice Ar rl cr, .slice Ak kl ck, .slice Ap prs.length cp, .int .i64 stp, .string nte, .string rot] 87 (0, 0)) := by rw [hW1]; exact alloc_lastV _ _
  obtain ⟨⟨b0, b1, b2, b3⟩, b4, b5, b6, b7⟩ := box8 hg1
  have HC := Lib.hid (contains_calls prs Ap cp W1 (Kd.C_below hOp hn1))
  have HP := Lib.hid (Kd.C_below hOp hn1)
  have HN1 := Lib.hid hn1
  have HG1 := Lib.hid hg1
  have HRV := Lib.hid hRV
  rw [hW1] at b0 b1 b2 b3 b4 b5 b6 b7
  have HW1 := Lib.hid hW1
  clear hW1 hn1 hg1 hOp hRV
  by_cases h1 : rl = 0
  · subst h1
    by_cases h2 : kl = 0
    · subst h2
      by_cases h3 : lab.size = 0
      · obtain rfl := empty_str h3
        by_cases h4 : 0 ≤ stp
        · have h4' : ¬ stp < 0 := by omega
          by_cases h5 : stp ≤ 1099511627776
          · have h5' : ¬ (1099511627776 : Int) < stp := by omega
            by_cases h6 : nte.size ≤ 40
            · have h6' : ¬ (40 : Int) < (nte.size : Int) := by omega
              by_cases h7 : rot.size = 32
              · have h7' : ((rot.size : Int) != 32) = false := by rw [h7]; rfl
                have H7 := Lib.hid h7
                clear h7
                by_cases h8 : prs.length ≤ 2
                · have h8' : ¬ (2 : Int) < (prs.length : Int) := by omega
                  have hRV2 := HRV.out
                  rw [decide_eq_true h4, decide_eq_true h5, decide_eq_true h6, decide_eq_true H7.out, decide_eq_true h8] at hRV2
                  simp only [decide_true, Bool.true_and, show decide ((ByteArray.mk #[]).size = 0) = true from rfl] at hRV2
                  have HRV2 := Lib.hid hRV2
                  clear hRV2 HRV
                  go_enter Tryd.func110, Tryd.ntmps110
                  go_wp2_with fail
                  rw [← HW1.out]
                  clear b0 b1 b2 b3 b5 b6 b7
                  refine HC.out.mono ?_
                  rintro e _ ⟨rfl, rfl⟩
                  obtain ⟨⟨b0, b1, b2, b3⟩, b4, b5, b6, b7⟩ := box8 HG1.out
                  cases han : prs.any wideB with
                  | true =>
                    have hRV3 := HRV2.out
                    rw [han, Bool.not_true, Bool.false_and] at hRV3
                    have HRV3 := Lib.hid hRV3
                    clear hRV3 han
                    go_wp2_with fail
                    go_ret
                    exact ⟨by rw [HRV3.out]; rfl, HN1.out⟩
                  | false =>
                    have hRV3 := HRV2.out
                    rw [han, Bool.not_false, Bool.true_and] at hRV3
                    have HRV3 := Lib.hid hRV3
                    clear hRV3 han
                    go_wp2_with fail
                    by_cases hl2 : prs.length < 2
                    · have hl2' : (prs.length : Int) < 2 := by omega
                      have hRV4 := HRV3.out
                      rw [decide_eq_true hl2, Bool.true_or] at hRV4
                      have HRV4 := Lib.hid hRV4
                      clear hRV4
                      go_quiet (fail)
                      go_wp2_with fail
                      go_ret
                      exact ⟨by rw [HRV4.out]; rfl, pw_below_drewN HN1.out _⟩
                    · have hl2' : ¬ (prs.length : Int) < 2 := by omega
                      have hRV4 := HRV3.out
                      obtain ⟨x, hx⟩ : ∃ x, prs[0]? = some x := ⟨_, List.getElem?_eq_getElem (by omega)⟩
                      obtain ⟨y, hy⟩ : ∃ y, prs[1]? = some y := ⟨_, List.getElem?_eq_getElem (by omega)⟩
                      obtain ⟨ad, rfl, c0, hb0⟩ := str_at HP.out hx
                      obtain ⟨ad', e', c1, hb1⟩ := str_at HP.out hy
                      cases e'
                      rw [decide_eq_false hl2, Bool.false_or, List.getD_eq_getElem?_getD, List.getD_eq_getElem?_getD, hx, hy] at hRV4
                      simp only [Option.getD_some] at hRV4
                      have HRV4 := Lib.hid hRV4
                      have hg0 : 0 < prs.length := by omega
                      have hg1 : 1 < prs.length := by omega
                      have hg1' : (1 : Int) < (prs.length : Int) := by omega
                      rw [show ad.add 0 = ad from by simp [Addr.add]] at c0
                      have ea : (⟨ad.block, ad.off + 1, none⟩ : Addr) = ad.add 1 := by
                        have := add_field ad 0 1 (by omega)
                        rw [show ad.add 0 = ad from by simp [Addr.add]] at this
                        exact this
                      rw [← ea] at c1
                      clear hRV4 hx hy hb0 hb1 ea
                      go_quiet (fail)
                      cases hxy : (x.toList == y.toList) with
                      | true =>
                        have hRV5 := HRV4.out
                        rw [hxy, Bool.not_true] at hRV5
                        have HRV5 := Lib.hid hRV5
                        clear hRV5
                        go_wp2_with fail
                        go_ret
                        exact ⟨by rw [HRV5.out]; rfl, pw_below_drewN HN1.out _⟩
                      | false =>
                        have hRV5 := HRV4.out
                        rw [hxy, Bool.not_false] at hRV5
                        have HRV5 := Lib.hid hRV5
                        clear hRV5
                        go_wp2_with fail
                        go_ret
                        exact ⟨by rw [HRV5.out]; rfl, pw_below_drewN HN1.out _⟩
                · have h8' : (2 : Int) < (prs.length : Int) := by omega
                  go_enter Tryd.func110, Tryd.ntmps110
                  go_wp2_with fail
                  rw [← HW1.out]
                  go_ret
                  exact ⟨by rw [HRV.out, decide_eq_false h8]; simp, HN1.out⟩
              · have h7n : ¬ (rot.size : Int) = 32 := by omega
                have h7' : ((rot.size : Int) != 32) = true := by simpa using h7n
                have H7 := Lib.hid h7
                clear h7
                go_enter Tryd.func110, Tryd.ntmps110
                go_wp2_with fail
                rw [← HW1.out]
                go_ret
                exact ⟨by rw [HRV.out, decide_eq_false H7.out]; simp, HN1.out⟩
            · have h6' : (40 : Int) < (nte.size : Int) := by omega
              go_enter Tryd.func110, Tryd.ntmps110
              go_wp2_with fail
              rw [← HW1.out]
              go_ret
              exact ⟨by rw [HRV.out, decide_eq_false h6]; simp, HN1.out⟩
          · have h5' : (1099511627776 : Int) < stp := by omega
            go_enter Tryd.func110, Tryd.ntmps110
            go_wp2_with fail
            rw [← HW1.out]
            go_ret
            exact ⟨by rw [HRV.out, decide_eq_false (show ¬ stp ≤ 1099511627776 by omega)]; simp, HN1.out⟩
        · have h4' : stp < 0 := by omega
          go_enter Tryd.func110, Tryd.ntmps110
          go_wp2_with fail
          rw [← HW1.out]
          go_ret
          exact ⟨by rw [HRV.out, decide_eq_false (show ¬ 0 ≤ stp by omega)]; simp, HN1.out⟩
      · have h3' := full_str h3
        go_enter Tryd.func110, Tryd.ntmps110
        go_wp2_with fail
        rw [← HW1.out]
        go_ret
        exact ⟨by rw [HRV.out, decide_eq_false h3]; simp, HN1.out⟩
    · have h2' : (0 : Int) < (kl : Int) := by omega
      go_enter Tryd.func110, Tryd.ntmps110
      go_wp2_with fail
      rw [← HW1.out]
      go_ret
      exact ⟨by rw [HRV.out, decide_eq_false h2]; simp, HN1.out⟩
  · have h1' : (0 : Int) < (rl : Int) := by omega
    go_enter Tryd.func110, Tryd.ntmps110
    go_wp2_with fail
    rw [← HW1.out]
    go_ret
    exact ⟨by rw [HRV.out, decide_eq_false h1]; simp, HN1.out⟩
end Go.Proofs.YtgjlchcfdbmmlaaDoor.PObjectTakes
