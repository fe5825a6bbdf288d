/- Texts of one proof, joined: TOW, TSm, TOX. -/
import Derived.Test.YtgjlchcfdbmmlaaDoorROug
import Derived.Test.YtgjlchcfdbmmlaaDoorRXg
set_option linter.unusedSimpArgs false
set_option linter.unusedVariables false
/- The document's Same: rows; an object is the same as itself. -/
namespace Go.Proofs.YtgjlchcfdbmmlaaDoor.PObjectTakes
open Go.RowKit Go.Proofs.YtgjlchcfdbmmlaaDoor.Ord Go.Proofs.YtgjlchcfdbmmlaaDoor.Obj Go.Proofs.YtgjlchcfdbmmlaaDoorW.PrintWords Go.Proofs.YtgjlchcfdbmmlaaDoorW.PrintLast Go.Proofs.YtgjlchcfdbmmlaaDoorW.PrintMore
set_option linter.unusedVariables false
set_option linter.unusedSimpArgs false

def eqR1 (x y : S55) : Bool := x.f0 == y.f0 && (x.f1 == y.f1 && (x.f2.f0 == y.f2.f0 && (x.f2.f1 == y.f2.f1 && (x.f2.f2.toList == y.f2.f2.toList))))
theorem eqR1_iff (x y : S55) : eqR1 x y = true ↔ x = y := by
  unfold eqR1
  constructor
  · intro h
    simp only [Bool.and_eq_true, beq_iff_eq] at h
    obtain ⟨h1, h2, h3, h4, h5⟩ := h
    obtain ⟨a, b, c, d, e⟩ := x
    obtain ⟨a', b', c', d', e'⟩ := y
    simp only at h1 h2 h3 h4 h5
    rw [Lib.toList_data, Lib.toList_data] at h5
    have : e = e' := by
      rw [← byL_of e, ← byL_of e', h5]
    subst h1; subst h2; subst h3; subst h4; subst this
    rfl
  · rintro rfl
    simp
def eqRows (l m : List S55) : Bool := match l, m with
  | [], [] => true
  | x :: xs, y :: ys => eqR1 x y && eqRows xs ys
  | _, _ => false
theorem eqRows_iff : ∀ (l m : List S55), eqRows l m = true ↔ l = m
  | [], [] => by simp [eqRows]
  | [], y :: ys => by simp [eqRows]
  | x :: xs, [] => by simp [eqRows]
  | x :: xs, y :: ys => by rw [eqRows, Bool.and_eq_true, eqR1_iff, eqRows_iff xs ys]; simp
theorem eqRows_len : ∀ (l m : List S55), l.length ≠ m.length → eqRows l m = false := fun l m h => by
  rw [Bool.eq_false_iff]; intro e; exact h (by rw [(eqRows_iff l m).1 e])
theorem rdRow_at {l : List S55} {i : Nat} (h : i < l.length) : rd_T55 l (i : Int) = l[i] := by
  unfold rd_T55; rw [Int.toNat_natCast, List.getD_eq_getElem?_getD, List.getElem?_eq_getElem h]; rfl
theorem same02_loop {l m : List S55} (hlm : l.length = m.length) (hl : l.length ≤ 9223372036854775807) : ∀ (d i : Nat), i + d = l.length → Ev (fun k => fastiref02_Same.l0 k l m (i : Int)) (eqRows (l.drop i) (m.drop i)) := by
  intro d
  induction d with
  | zero =>
    intro i hi
    rw [List.drop_of_length_le (by omega), List.drop_of_length_le (by omega)]
    refine Ev.step (f := fun _ => some true) (fun k => ?_) (Ev.now _)
    rw [fastiref02_Same.l0, if_neg (by omega)]
  | succ d ihd =>
    intro i hi
    have hil : i < l.length := by omega
    have him : i < m.length := by omega
    have w2 : wrap64 ((i : Int) + 1) = ((i + 1 : Nat) : Int) := by unfold wrap64; omega
    have hd : eqRows (l.drop i) (m.drop i) = (eqR1 l[i] m[i] && eqRows (l.drop (i + 1)) (m.drop (i + 1))) := by
      rw [List.drop_eq_getElem_cons hil, List.drop_eq_getElem_cons him, eqRows]
    rw [hd]
    cases hq : eqR1 l[i] m[i] with
    | true =>
      rw [Bool.true_and]
      refine Ev.step (f := fun k => fastiref02_Same.l0 k l m ((i + 1 : Nat) : Int)) (fun k => ?_) (ihd (i + 1) (by omega))
      rw [fastiref02_Same.l0, if_pos (by omega), if_pos (by omega), if_pos (by omega), rdRow_at hil, rdRow_at him, w2, if_neg]
      unfold eqR1 at hq
      simp only [Bool.and_eq_true] at hq
      obtain ⟨q1, q2, q3, q4, q5⟩ := hq
      rw [q1, q2, q3, q4, q5]
      decide
    | false =>
      rw [Bool.false_and]
      refine Ev.step (f := fun _ => some false) (fun k => ?_) (Ev.now _)
      rw [fastiref02_Same.l0, if_pos (by omega), if_pos (by omega), if_pos (by omega), rdRow_at hil, rdRow_at him, if_pos]
      unfold eqR1 at hq
      revert hq
      generalize (l[i].f0 == m[i].f0) = q1
      generalize (l[i].f1 == m[i].f1) = q2
      generalize (l[i].f2.f0 == m[i].f2.f0) = q3
      generalize (l[i].f2.f1 == m[i].f2.f1) = q4
      generalize (l[i].f2.f2.toList == m[i].f2.f2.toList) = q5
      cases q1 <;> cases q2 <;> cases q3 <;> cases q4 <;> cases q5 <;> decide
theorem same02_any (l m : List S55) (hl : l.length ≤ 9223372036854775807) : Ev (fun k => fastiref02_Same.f k l m) (eqRows l m) := by
  by_cases h : l.length = m.length
  · have := same02_loop h hl l.length 0 (by omega)
    rw [List.drop_zero, List.drop_zero] at this
    exact Ev.congr (fun k => by unfold fastiref02_Same.f; rw [if_pos (by omega)]; rfl) this
  · rw [eqRows_len l m h]
    exact Ev.congr (fun k => by unfold fastiref02_Same.f; rw [if_neg (by omega)]) (Ev.now false)
theorem same07_l1 (o : Ob) (hp : o.parents.length ≤ 9223372036854775807) : ∀ (d i : Nat), i + d = o.parents.length → Ev (fun k => fastiref07_Same.l1 k (i : Int) o.kind o.label o.rows o.kids o.parents o.stamp o.note o.root o.kind o.label o.rows o.kids o.parents o.stamp o.note o.root) true := by
  intro d
  induction d with
  | zero =>
    intro i hi
    refine Ev.step (f := fun _ => some true) (fun k => ?_) (Ev.now _)
    rw [fastiref07_Same.l1, if_neg (by omega)]
  | succ d ihd =>
    intro i hi
    have w2 : wrap64 ((i : Int) + 1) = ((i + 1 : Nat) : Int) := by unfold wrap64; omega
    refine Ev.step (f := fun k => fastiref07_Same.l1 k ((i + 1 : Nat) : Int) o.kind o.label o.rows o.kids o.parents o.stamp o.note o.root o.kind o.label o.rows o.kids o.parents o.stamp o.note o.root) (fun k => ?_) (ihd (i + 1) (by omega))
    rw [fastiref07_Same.l1, if_pos (by omega), if_pos (by omega), if_pos (by omega), if_pos rfl, w2]
theorem same07_l0 (o : Ob) (hk : o.kids.length ≤ 9223372036854775807) (hp : o.parents.length ≤ 9223372036854775807) : ∀ (d i : Nat), i + d = o.kids.length → Ev (fun k => fastiref07_Same.l0 k (i : Int) o.kind o.label o.rows o.kids o.parents o.stamp o.note o.root o.kind o.label o.rows o.kids o.parents o.stamp o.note o.root) true := by
  intro d
  induction d with
  | zero =>
    intro i hi
    refine Ev.step (f := fun k => fastiref07_Same.l1 k ((0 : Nat) : Int) o.kind o.label o.rows o.kids o.parents o.stamp o.note o.root o.kind o.label o.rows o.kids o.parents o.stamp o.note o.root) (fun k => ?_) (same07_l1 o hp o.parents.length 0 (by omega))
    rw [fastiref07_Same.l0, if_neg (by omega)]
    rfl
  | succ d ihd =>
    intro i hi
    have w2 : wrap64 ((i : Int) + 1) = ((i + 1 : Nat) : Int) := by unfold wrap64; omega
    refine Ev.step (f := fun k => fastiref07_Same.l0 k ((i + 1 : Nat) : Int) o.kind o.label o.rows o.kids o.parents o.stamp o.note o.root o.kind o.label o.rows o.kids o.parents o.stamp o.note o.root) (fun k => ?_) (ihd (i + 1) (by omega))
    rw [fastiref07_Same.l0, if_pos (by omega), if_pos (by omega), if_pos (by omega), if_neg (by simp), w2]
theorem same07_self (o : Ob) (hr : o.rows.length ≤ 9223372036854775807) (hk : o.kids.length ≤ 9223372036854775807) (hp : o.parents.length ≤ 9223372036854775807) :
    Ev (fun k => fastiref07_Same.f k o.kind o.label o.rows o.kids o.parents o.stamp o.note o.root o.kind o.label o.rows o.kids o.parents o.stamp o.note o.root) true := by
  have h2 := same02_any o.rows o.rows hr
  rw [(eqRows_iff o.rows o.rows).2 rfl] at h2
  have h3 : Ev (fun k => fastiref07_Same.j0 k false o.kind o.label o.rows o.kids o.parents o.stamp o.note o.root o.kind o.label o.rows o.kids o.parents o.stamp o.note o.root) true := by
    refine Ev.step (f := fun k => fastiref07_Same.l0 k ((0 : Nat) : Int) o.kind o.label o.rows o.kids o.parents o.stamp o.note o.root o.kind o.label o.rows o.kids o.parents o.stamp o.note o.root) (fun k => ?_) (same07_l0 o hk hp o.kids.length 0 (by omega))
    rw [fastiref07_Same.j0, if_neg (by decide)]
    rfl
  obtain ⟨K1, h2⟩ := h2
  obtain ⟨K2, h3⟩ := h3
  refine ⟨max K1 K2, fun k hk => ?_⟩
  have e2 : fastiref02_Same.f k o.rows o.rows = some true := h2 k (by omega)
  have e3 : fastiref07_Same.j0 k false o.kind o.label o.rows o.kids o.parents o.stamp o.note o.root o.kind o.label o.rows o.kids o.parents o.stamp o.note o.root = some true := h3 k (by omega)
  show fastiref07_Same.f k o.kind o.label o.rows o.kids o.parents o.stamp o.note o.root o.kind o.label o.rows o.kids o.parents o.stamp o.note o.root = some true
  have hb : ((o.parents.length : Int) != (o.parents.length : Int)) = false := by simp
  unfold fastiref07_Same.f
  rw [if_pos rfl, if_pos rfl, if_pos rfl, if_pos rfl, if_pos rfl, e2, Option.bind_some, if_pos rfl, if_pos rfl, hb, e3]
/-- The document's Same at an object and itself. -/
theorem same07_calls (o : Ob) (Ar : Option Addr) (cr : Nat) (Ak : Option Addr) (ck : Nat) (Ap : Option Addr) (cp : Nat) (Ar' : Option Addr) (cr' : Nat) (Ak' : Option Addr) (ck' : Nat) (Ap' : Option Addr) (cp' : Nat) (w : World) (h : ObAt w o Ar cr Ak ck Ap cp) (h' : ObAt w o Ar' cr' Ak' ck' Ap' cp') :
    Calls Tryd.prog 11 #[.agg (obV o Ar cr Ak ck Ap cp), .agg (obV o Ar' cr' Ak' ck' Ap' cp')] w fun e w' => e = .returned (.bool true) ∧ Below w.heap.size w w' := by
  obtain ⟨k, hk⟩ := (same07_self o (by have := h.r.2.1; omega) (by have := h.k.2.1; omega) (by have := h.p.2.1; omega)).rounds
  exact fastiref07_Same.calls k o.kind o.label Ar cr o.rows Ak ck o.kids Ap cp o.parents o.stamp o.note o.root o.kind o.label Ar' cr' o.rows Ak' ck' o.kids Ap' cp' o.parents o.stamp o.note o.root true w h.r h.lr h.k h.lk h.p h.lp h'.r h'.lr h'.k h'.lk h'.p h'.lp hk
theorem same02_calls (l m : List S55) (A : Option Addr) (c : Nat) (A' : Option Addr) (c' : Nat) (w : World) (h : Kd.C k55 w A l.length l) (hc : l.length ≤ c) (h' : Kd.C k55 w A' m.length m) (hc' : m.length ≤ c') :
    Calls Tryd.prog 17 #[.slice A l.length c, .slice A' m.length c'] w fun e w' => e = .returned (.bool (eqRows l m)) ∧ Below w.heap.size w w' := by
  obtain ⟨k, hk⟩ := (same02_any l m (by have := h.2.1; omega)).rounds
  refine (fastiref02_Same.calls k A c l A' c' m (eqRows l m) w h hc h' hc' hk).mono fun e w' ⟨he, n, hn⟩ => ⟨he, by rw [hn]; exact pw_below_drewN (Below.refl _ _) n⟩
end Go.Proofs.YtgjlchcfdbmmlaaDoor.PObjectTakes
-- PRINTED BY print.sh 35421559b90ae4d0a3588c463048766b98c2df88dd9212a6774a882060cdf62d: not written by this session
namespace Go.Proofs.YtgjlchcfdbmmlaaDoor.PObjectTakes
open Go.RowKit Go.Proofs.YtgjlchcfdbmmlaaDoorW.PrintWords Go.Proofs.YtgjlchcfdbmmlaaDoorW.PrintLast Go.Proofs.YtgjlchcfdbmmlaaDoorW.PrintMore
attribute [local go_sem] max2_int min2_int max_two min_two max_three min_three max_four min_four   -- for this text's walks alone
set_option linter.unusedVariables false
set_option linter.unusedSimpArgs false

/-! ### fastilaw07_small: function 6 -/
mutual
def fastilaw07_small.j0 : Nat → Bool → Int → ByteArray → List (S55) → List (S60) → List ByteArray → Int → ByteArray → ByteArray → Option (Bool)
  | 0, _, _, _, _, _, _, _, _, _ => none
  | k + 1, x35, x102000, x102001, x102002, x102003, x102004, x102005, x102006, x102007 => if x35 = true then (some false) else (fastilaw07_small.l0 k 0 x102000 x102001 x102002 x102003 x102004 x102005 x102006 x102007)
def fastilaw07_small.l0 : Nat → Int → Int → ByteArray → List (S55) → List (S60) → List ByteArray → Int → ByteArray → ByteArray → Option (Bool)
  | 0, _, _, _, _, _, _, _, _, _ => none
  | k + 1, x3, x102000, x102001, x102002, x102003, x102004, x102005, x102006, x102007 => if x3 < (x102002.length : Int) then (if 0 ≤ x3 then (if (((rd_T55 x102002 x3).f2.f2).size : Int) > 200 then (some false) else (fastilaw07_small.l0 k (wrap64 (x3 + 1)) x102000 x102001 x102002 x102003 x102004 x102005 x102006 x102007)) else (none)) else (fastilaw07_small.l1 k 0 x102000 x102001 x102002 x102003 x102004 x102005 x102006 x102007)
def fastilaw07_small.l1 : Nat → Int → Int → ByteArray → List (S55) → List (S60) → List ByteArray → Int → ByteArray → ByteArray → Option (Bool)
  | 0, _, _, _, _, _, _, _, _, _ => none
  | k + 1, x4, x102000, x102001, x102002, x102003, x102004, x102005, x102006, x102007 => if x4 < (x102003.length : Int) then (if 0 ≤ x4 then (if (((rd_T60 x102003 x4).f1).size : Int) > 100 then (some false) else (fastilaw07_small.l1 k (wrap64 (x4 + 1)) x102000 x102001 x102002 x102003 x102004 x102005 x102006 x102007)) else (none)) else (fastilaw07_small.l2 k 0 x102000 x102001 x102002 x102003 x102004 x102005 x102006 x102007)
def fastilaw07_small.l2 : Nat → Int → Int → ByteArray → List (S55) → List (S60) → List ByteArray → Int → ByteArray → ByteArray → Option (Bool)
  | 0, _, _, _, _, _, _, _, _, _ => none
  | k + 1, x5, x102000, x102001, x102002, x102003, x102004, x102005, x102006, x102007 => if x5 < (x102004.length : Int) then (if 0 ≤ x5 then (if ((rdOf ByteArray.empty x102004 x5).size : Int) > 100 then (some false) else (fastilaw07_small.l2 k (wrap64 (x5 + 1)) x102000 x102001 x102002 x102003 x102004 x102005 x102006 x102007)) else (none)) else (some true)
end
def fastilaw07_small.f (k : Nat) (a0_0 : Int) (a0_1 : ByteArray) (l0_2 : List (S55)) (l0_3 : List (S60)) (l0_4 : List ByteArray) (a0_5 : Int) (a0_6 : ByteArray) (a0_7 : ByteArray) : Option (Bool) := if (wrap64 ((wrap64 ((a0_1.size : Int) + (a0_6.size : Int))) + (a0_7.size : Int))) > 500 then (fastilaw07_small.j0 k true a0_0 a0_1 l0_2 l0_3 l0_4 a0_5 a0_6 a0_7) else (if (l0_2.length : Int) > 80 then (fastilaw07_small.j0 k true a0_0 a0_1 l0_2 l0_3 l0_4 a0_5 a0_6 a0_7) else (if (l0_3.length : Int) > 300 then (fastilaw07_small.j0 k true a0_0 a0_1 l0_2 l0_3 l0_4 a0_5 a0_6 a0_7) else (fastilaw07_small.j0 k (decide ((l0_4.length : Int) > 10)) a0_0 a0_1 l0_2 l0_3 l0_4 a0_5 a0_6 a0_7)))
set_option maxHeartbeats 8000000 in
set_option maxRecDepth 100000 in
theorem fastilaw07_small.calls (k : Nat) (a0_0 : Int) (a0_1 : ByteArray) (A0_2 : Option Addr) (c0_2 : Nat) (l0_2 : List (S55)) (A0_3 : Option Addr) (c0_3 : Nat) (l0_3 : List (S60)) (A0_4 : Option Addr) (c0_4 : Nat) (l0_4 : List ByteArray) (a0_5 : Int) (a0_6 : ByteArray) (a0_7 : ByteArray) (r : Bool) (w : World) (hr0_2 : Kd.C k55 w A0_2 l0_2.length l0_2) (hc0_2 : l0_2.length ≤ c0_2) (hr0_3 : Kd.C k60 w A0_3 l0_3.length l0_3) (hc0_3 : l0_3.length ≤ c0_3) (hr0_4 : Kd.C Kd.string w A0_4 l0_4.length l0_4) (hc0_4 : l0_4.length ≤ c0_4) (h : fastilaw07_small.f k a0_0 a0_1 l0_2 l0_3 l0_4 a0_5 a0_6 a0_7 = some r) :
    Calls Tryd.prog 6 #[.agg #[.int .i64 a0_0, .string a0_1, .slice A0_2 l0_2.length c0_2, .slice A0_3 l0_3.length c0_3, .slice A0_4 l0_4.length c0_4, .int .i64 a0_5, .string a0_6, .string a0_7]] w fun e w' => e = .returned (.bool r) ∧ Below w.heap.size w w' := by
  have hu27 := Tryd.underlying27
  have HR0_2 := Aside0.mk hr0_2
  have HC0_2 := Aside0.mk hc0_2
  clear hr0_2 hc0_2
  have HR0_3 := Aside0.mk hr0_3
  have HC0_3 := Aside0.mk hc0_3
  clear hr0_3 hc0_3
  have HR0_4 := Aside0.mk hr0_4
  have HC0_4 := Aside0.mk hc0_4
  clear hr0_4 hc0_4
  have HB := Aside0.mk (Below.refl w.heap.size w)
  have H : (if (wrap64 ((wrap64 ((a0_1.size : Int) + (a0_6.size : Int))) + (a0_7.size : Int))) > 500 then (fastilaw07_small.j0 k true a0_0 a0_1 l0_2 l0_3 l0_4 a0_5 a0_6 a0_7) else (if (l0_2.length : Int) > 80 then (fastilaw07_small.j0 k true a0_0 a0_1 l0_2 l0_3 l0_4 a0_5 a0_6 a0_7) else (if (l0_3.length : Int) > 300 then (fastilaw07_small.j0 k true a0_0 a0_1 l0_2 l0_3 l0_4 a0_5 a0_6 a0_7) else (fastilaw07_small.j0 k (decide ((l0_4.length : Int) > 10)) a0_0 a0_1 l0_2 l0_3 l0_4 a0_5 a0_6 a0_7)))) = some r := h
  clear h
  have HC2 := Aside0.mk H
  clear H
  go_enter Tryd.func6, Tryd.ntmps6
  go_upto_region 1 with (first | ((with_reducible refine gate_dst (N := 1) rfl ?_); (try (refine gate_guard (by rfl) ?_; dsimp only)); refine box_event ?hg (N := 1) ?hd (cs := #[.int .i64 a0_0, .string a0_1, .slice A0_2 l0_2.length c0_2, .slice A0_3 l0_3.length c0_3, .slice A0_4 l0_4.length c0_4, .int .i64 a0_5, .string a0_6, .string a0_7]) (t := 27) ?hr ?_; (case hd => rfl); (case hg => rfl); (case hr => first | (go_simp; done) | (go_simp; rfl)); intro gb101 hg w3 hbox hb; have n0_ := Aside0.mk (below_step (by repeat (first | (with_reducible first | exact HB.out | apply below_alloc | apply pw_below_drewN | apply below_drew1) | exact HB.out)) hb); have n1_ := Aside0.mk (hbox); have n2_ := Aside0.mk ((by rw [hg]; exact (below_size (by repeat (first | (with_reducible first | exact HB.out | apply below_alloc | apply pw_below_drewN | apply below_drew1) | exact HB.out))) : w.heap.size ≤ gb101)); have n3_ := Aside0.mk ((by rw [hg]; exact (below_size (by repeat (first | (with_reducible first | exact HB.out | apply below_alloc | apply pw_below_drewN | apply below_drew1) | exact HB.out))) : w.heap.size ≤ gb101)); clear HB; have HB := n0_; have BK101 := n1_; have GW101 := n2_; have GE101 := n3_; clear n0_ n1_ n2_ n3_; clear hb hbox hg))
  (try simp only [Act.put, List.setIfInBounds_toArray, List.set_cons_zero, List.set_cons_succ])
  go_cut [35] (fun v35 wc => ∃ (kq : Nat) (x35_1 : Bool), v35 = .bool x35_1 ∧ Aside0 (fastilaw07_small.j0 kq x35_1 a0_0 a0_1 l0_2 l0_3 l0_4 a0_5 a0_6 a0_7 = some r) ∧ Aside0 (kq ≤ k) ∧ Aside0 (wc.heap[gb101]? = some (.cells #[.int .i64 a0_0, .string a0_1, (.slice A0_2 l0_2.length c0_2), (.slice A0_3 l0_3.length c0_3), (.slice A0_4 l0_4.length c0_4), .int .i64 a0_5, .string a0_6, .string a0_7] 27 (0, 0))) ∧ Aside0 (Below w.heap.size w wc))
  case first =>
    have H := HC2.out
    clear HC2
    by_cases c4 : (wrap64 ((wrap64 ((a0_1.size : Int) + (a0_6.size : Int))) + (a0_7.size : Int))) > 500
    · rw [if_pos c4] at H
      have c4b0 : decide (500 < (wrap64 ((wrap64 ((a0_1.size : Int) + (a0_6.size : Int))) + (a0_7.size : Int)))) = true := decide_eq_true c4
      clear c4
      (first | rw [c4b0] | (simp only [i64_w, i32_w]; rw [c4b0]) | skip)
      have H' := Aside0.mk H
      clear H
      have hcz5_0 : w3.cell? ⟨gb101, 0, none⟩ = some (.int .i64 a0_0) := (blk_cell BK101.out 0).trans rfl
      have hcz5_1 : w3.cell? ⟨gb101, 1, none⟩ = some (.string a0_1) := (blk_cell BK101.out 1).trans rfl
      have hcz5_2 : w3.cell? ⟨gb101, 2, none⟩ = some (.slice A0_2 l0_2.length c0_2) := (blk_cell BK101.out 2).trans rfl
      have hcz5_3 : w3.cell? ⟨gb101, 3, none⟩ = some (.slice A0_3 l0_3.length c0_3) := (blk_cell BK101.out 3).trans rfl
      have hcz5_4 : w3.cell? ⟨gb101, 4, none⟩ = some (.slice A0_4 l0_4.length c0_4) := (blk_cell BK101.out 4).trans rfl
      have hcz5_5 : w3.cell? ⟨gb101, 5, none⟩ = some (.int .i64 a0_5) := (blk_cell BK101.out 5).trans rfl
      have hcz5_6 : w3.cell? ⟨gb101, 6, none⟩ = some (.string a0_6) := (blk_cell BK101.out 6).trans rfl
      have hcz5_7 : w3.cell? ⟨gb101, 7, none⟩ = some (.string a0_7) := (blk_cell BK101.out 7).trans rfl
      have hfz5_0 := blk_frozen BK101.out 0
      have hfz5_1 := blk_frozen BK101.out 1
      have hfz5_2 := blk_frozen BK101.out 2
      have hfz5_3 := blk_frozen BK101.out 3
      have hfz5_4 := blk_frozen BK101.out 4
      have hfz5_5 := blk_frozen BK101.out 5
      have hfz5_6 := blk_frozen BK101.out 6
      have hfz5_7 := blk_frozen BK101.out 7
      go_wp2
      go_meet
      case rel => exact ⟨_, (true), (by first | rfl | (simp; done) | (simp [*]; done)), H', ⟨by first | omega | exact Nat.le_refl _⟩, ⟨by (with_reducible repeat (first | refine blk_drewN ?_ _ | refine blk_drew ?_ | refine blk_alloc ?_ _)); exact BK101.out⟩, ⟨by repeat (first | (with_reducible first | exact HB.out | apply below_alloc | apply pw_below_drewN | apply below_drew1 | refine below_set ?_ GE101.out) | exact HB.out)⟩⟩
    · rw [if_neg c4] at H
      have c4b0 : decide (500 < (wrap64 ((wrap64 ((a0_1.size : Int) + (a0_6.size : Int))) + (a0_7.size : Int)))) = false := decide_eq_false c4
      clear c4
      (first | rw [c4b0] | (simp only [i64_w, i32_w]; rw [c4b0]) | skip)
      by_cases c6 : (l0_2.length : Int) > 80
      · rw [if_pos c6] at H
        have c6b0 : decide (80 < (l0_2.length : Int)) = true := decide_eq_true c6
        have c6b1 : decide (80 < l0_2.length) = true := decide_eq_true (by omega)
        clear c6
        have H' := Aside0.mk H
        clear H
        have hcz7_0 : w3.cell? ⟨gb101, 0, none⟩ = some (.int .i64 a0_0) := (blk_cell BK101.out 0).trans rfl
        have hcz7_1 : w3.cell? ⟨gb101, 1, none⟩ = some (.string a0_1) := (blk_cell BK101.out 1).trans rfl
        have hcz7_2 : w3.cell? ⟨gb101, 2, none⟩ = some (.slice A0_2 l0_2.length c0_2) := (blk_cell BK101.out 2).trans rfl
        have hcz7_3 : w3.cell? ⟨gb101, 3, none⟩ = some (.slice A0_3 l0_3.length c0_3) := (blk_cell BK101.out 3).trans rfl
        have hcz7_4 : w3.cell? ⟨gb101, 4, none⟩ = some (.slice A0_4 l0_4.length c0_4) := (blk_cell BK101.out 4).trans rfl
        have hcz7_5 : w3.cell? ⟨gb101, 5, none⟩ = some (.int .i64 a0_5) := (blk_cell BK101.out 5).trans rfl
        have hcz7_6 : w3.cell? ⟨gb101, 6, none⟩ = some (.string a0_6) := (blk_cell BK101.out 6).trans rfl
        have hcz7_7 : w3.cell? ⟨gb101, 7, none⟩ = some (.string a0_7) := (blk_cell BK101.out 7).trans rfl
        have hfz7_0 := blk_frozen BK101.out 0
        have hfz7_1 := blk_frozen BK101.out 1
        have hfz7_2 := blk_frozen BK101.out 2
        have hfz7_3 := blk_frozen BK101.out 3
        have hfz7_4 := blk_frozen BK101.out 4
        have hfz7_5 := blk_frozen BK101.out 5
        have hfz7_6 := blk_frozen BK101.out 6
        have hfz7_7 := blk_frozen BK101.out 7
        go_wp2
        go_meet
        case rel => exact ⟨_, (true), (by first | rfl | (simp; done) | (simp [*]; done)), H', ⟨by first | omega | exact Nat.le_refl _⟩, ⟨by (with_reducible repeat (first | refine blk_drewN ?_ _ | refine blk_drew ?_ | refine blk_alloc ?_ _)); exact BK101.out⟩, ⟨by repeat (first | (with_reducible first | exact HB.out | apply below_alloc | apply pw_below_drewN | apply below_drew1 | refine below_set ?_ GE101.out) | exact HB.out)⟩⟩
      · rw [if_neg c6] at H
        have c6b0 : decide (80 < (l0_2.length : Int)) = false := decide_eq_false c6
        have c6b1 : decide (80 < l0_2.length) = false := decide_eq_false (by omega)
        clear c6
        by_cases c8 : (l0_3.length : Int) > 300
        · rw [if_pos c8] at H
          have c8b0 : decide (300 < (l0_3.length : Int)) = true := decide_eq_true c8
          have c8b1 : decide (300 < l0_3.length) = true := decide_eq_true (by omega)
          clear c8
          have H' := Aside0.mk H
          clear H
          have hcz9_0 : w3.cell? ⟨gb101, 0, none⟩ = some (.int .i64 a0_0) := (blk_cell BK101.out 0).trans rfl
          have hcz9_1 : w3.cell? ⟨gb101, 1, none⟩ = some (.string a0_1) := (blk_cell BK101.out 1).trans rfl
          have hcz9_2 : w3.cell? ⟨gb101, 2, none⟩ = some (.slice A0_2 l0_2.length c0_2) := (blk_cell BK101.out 2).trans rfl
          have hcz9_3 : w3.cell? ⟨gb101, 3, none⟩ = some (.slice A0_3 l0_3.length c0_3) := (blk_cell BK101.out 3).trans rfl
          have hcz9_4 : w3.cell? ⟨gb101, 4, none⟩ = some (.slice A0_4 l0_4.length c0_4) := (blk_cell BK101.out 4).trans rfl
          have hcz9_5 : w3.cell? ⟨gb101, 5, none⟩ = some (.int .i64 a0_5) := (blk_cell BK101.out 5).trans rfl
          have hcz9_6 : w3.cell? ⟨gb101, 6, none⟩ = some (.string a0_6) := (blk_cell BK101.out 6).trans rfl
          have hcz9_7 : w3.cell? ⟨gb101, 7, none⟩ = some (.string a0_7) := (blk_cell BK101.out 7).trans rfl
          have hfz9_0 := blk_frozen BK101.out 0
          have hfz9_1 := blk_frozen BK101.out 1
          have hfz9_2 := blk_frozen BK101.out 2
          have hfz9_3 := blk_frozen BK101.out 3
          have hfz9_4 := blk_frozen BK101.out 4
          have hfz9_5 := blk_frozen BK101.out 5
          have hfz9_6 := blk_frozen BK101.out 6
          have hfz9_7 := blk_frozen BK101.out 7
          go_wp2
          go_meet
          case rel => exact ⟨_, (true), (by first | rfl | (simp; done) | (simp [*]; done)), H', ⟨by first | omega | exact Nat.le_refl _⟩, ⟨by (with_reducible repeat (first | refine blk_drewN ?_ _ | refine blk_drew ?_ | refine blk_alloc ?_ _)); exact BK101.out⟩, ⟨by repeat (first | (with_reducible first | exact HB.out | apply below_alloc | apply pw_below_drewN | apply below_drew1 | refine below_set ?_ GE101.out) | exact HB.out)⟩⟩
        · rw [if_neg c8] at H
          have c8b0 : decide (300 < (l0_3.length : Int)) = false := decide_eq_false c8
          have c8b1 : decide (300 < l0_3.length) = false := decide_eq_false (by omega)
          clear c8
          have H' := Aside0.mk H
          clear H
          have hcz10_0 : w3.cell? ⟨gb101, 0, none⟩ = some (.int .i64 a0_0) := (blk_cell BK101.out 0).trans rfl
          have hcz10_1 : w3.cell? ⟨gb101, 1, none⟩ = some (.string a0_1) := (blk_cell BK101.out 1).trans rfl
          have hcz10_2 : w3.cell? ⟨gb101, 2, none⟩ = some (.slice A0_2 l0_2.length c0_2) := (blk_cell BK101.out 2).trans rfl
          have hcz10_3 : w3.cell? ⟨gb101, 3, none⟩ = some (.slice A0_3 l0_3.length c0_3) := (blk_cell BK101.out 3).trans rfl
          have hcz10_4 : w3.cell? ⟨gb101, 4, none⟩ = some (.slice A0_4 l0_4.length c0_4) := (blk_cell BK101.out 4).trans rfl
          have hcz10_5 : w3.cell? ⟨gb101, 5, none⟩ = some (.int .i64 a0_5) := (blk_cell BK101.out 5).trans rfl
          have hcz10_6 : w3.cell? ⟨gb101, 6, none⟩ = some (.string a0_6) := (blk_cell BK101.out 6).trans rfl
          have hcz10_7 : w3.cell? ⟨gb101, 7, none⟩ = some (.string a0_7) := (blk_cell BK101.out 7).trans rfl
          have hfz10_0 := blk_frozen BK101.out 0
          have hfz10_1 := blk_frozen BK101.out 1
          have hfz10_2 := blk_frozen BK101.out 2
          have hfz10_3 := blk_frozen BK101.out 3
          have hfz10_4 := blk_frozen BK101.out 4
          have hfz10_5 := blk_frozen BK101.out 5
          have hfz10_6 := blk_frozen BK101.out 6
          have hfz10_7 := blk_frozen BK101.out 7
          go_wp2
          go_meet
          case rel => exact ⟨_, (decide ((l0_4.length : Int) > 10)), (by first | rfl | (simp; done) | (simp [*]; done)), H', ⟨by first | omega | exact Nat.le_refl _⟩, ⟨by (with_reducible repeat (first | refine blk_drewN ?_ _ | refine blk_drew ?_ | refine blk_alloc ?_ _)); exact BK101.out⟩, ⟨by repeat (first | (with_reducible first | exact HB.out | apply below_alloc | apply pw_below_drewN | apply below_drew1 | refine below_set ?_ GE101.out) | exact HB.out)⟩⟩
  case rest =>
    clear HC2
    try clear p2
    try clear c4
    try clear c4b0
    try clear c6
    try clear c6b0
    try clear c6b1
    try clear p6
    try clear c8
    try clear c8b0
    try clear c8b1
    try clear hcz10_0
    try clear hcz10_1
    try clear hcz10_2
    try clear hcz10_3
    try clear hcz10_4
    try clear hcz10_5
    try clear hcz10_6
    try clear hcz10_7
    try clear hcz5_0
    try clear hcz5_1
    try clear hcz5_2
    try clear hcz5_3
    try clear hcz5_4
    try clear hcz5_5
    try clear hcz5_6
    try clear hcz5_7
    try clear hcz7_0
    try clear hcz7_1
    try clear hcz7_2
    try clear hcz7_3
    try clear hcz7_4
    try clear hcz7_5
    try clear hcz7_6
    try clear hcz7_7
    try clear hcz9_0
    try clear hcz9_1
    try clear hcz9_2
    try clear hcz9_3
    try clear hcz9_4
    try clear hcz9_5
    try clear hcz9_6
    try clear hcz9_7
    try clear hfz10_0
    try clear hfz10_1
    try clear hfz10_2
    try clear hfz10_3
    try clear hfz10_4
    try clear hfz10_5
    try clear hfz10_6
    try clear hfz10_7
    try clear hfz5_0
    try clear hfz5_1
    try clear hfz5_2
    try clear hfz5_3
    try clear hfz5_4
    try clear hfz5_5
    try clear hfz5_6
    try clear hfz5_7
    try clear hfz7_0
    try clear hfz7_1
    try clear hfz7_2
    try clear hfz7_3
    try clear hfz7_4
    try clear hfz7_5
    try clear hfz7_6
    try clear hfz7_7
    try clear hfz9_0
    try clear hfz9_1
    try clear hfz9_2
    try clear hfz9_3
    try clear hfz9_4
    try clear hfz9_5
    try clear hfz9_6
    try clear hfz9_7
    obtain ⟨kq, x35_1, rfl, HA, HJ1, BK101, HB⟩ := hcut
    cases kq with
    | zero => exact absurd HA.out (by simp [fastilaw07_small.j0])
    | succ kj1 =>
      have H := HA.out
      clear HA
      simp only [fastilaw07_small.j0] at H
      by_cases c11 : x35_1 = true
      · subst c11
        have H1 : (some false) = some r := by rw [if_pos rfl] at H; exact H
        clear H
        have H := H1
        clear H1
        obtain rfl := Option.some.inj H
        go_wp2
        go_ret
        exact ⟨by first | rfl | (simp [errW_none, errW_some] <;> rfl) | (simp [*, errW_none, errW_some] <;> rfl), by repeat (first | (with_reducible first | exact HB.out | apply below_alloc | apply pw_below_drewN | apply below_drew1 | refine below_set ?_ GE101.out) | exact HB.out)⟩
      · replace c11 := Bool.eq_false_iff.mpr c11
        subst c11
        have H1 : (fastilaw07_small.l0 kj1 0 a0_0 a0_1 l0_2 l0_3 l0_4 a0_5 a0_6 a0_7) = some r := by rw [if_neg (show ¬ (false = true) by decide)] at H; exact H
        clear H
        have H := H1
        clear H1
        have H' := Aside0.mk H
        clear H
        go_wp2
        go_loopg [3] kj1 (fun kq v3 w' => ∃ (x3_2 : Int), v3 = .int .i64 x3_2 ∧ Aside0 (fastilaw07_small.l0 kq x3_2 a0_0 a0_1 l0_2 l0_3 l0_4 a0_5 a0_6 a0_7 = some r) ∧ Aside0 (kq ≤ kj1) ∧ Aside0 (w'.heap[gb101]? = some (.cells #[.int .i64 a0_0, .string a0_1, (.slice A0_2 l0_2.length c0_2), (.slice A0_3 l0_3.length c0_3), (.slice A0_4 l0_4.length c0_4), .int .i64 a0_5, .string a0_6, .string a0_7] 27 (0, 0))) ∧ Aside0 (Below w.heap.size w w'))
        case atStart => exact ⟨(0), (by first | rfl | (simp; done) | (simp [*]; done)), H', ⟨Nat.le_refl _⟩, ⟨by (with_reducible repeat (first | refine blk_drewN ?_ _ | refine blk_drew ?_ | refine blk_alloc ?_ _)); exact BK101.out⟩, ⟨by repeat (first | (with_reducible first | exact HB.out | apply below_alloc | apply pw_below_drewN | apply below_drew1 | refine below_set ?_ GE101.out) | exact HB.out)⟩⟩
        case round =>
          clear H'
          try clear c1
          try clear p2
          try clear c4
          try clear c4b0
          try clear c6
          try clear c6b0
          try clear c6b1
          try clear p6
          try clear c8
          try clear c8b0
          try clear c8b1
          try clear c11
          try clear hcz10_0
          try clear hcz10_1
          try clear hcz10_2
          try clear hcz10_3
          try clear hcz10_4
          try clear hcz10_5
          try clear hcz10_6
          try clear hcz10_7
          try clear hcz5_0
          try clear hcz5_1
          try clear hcz5_2
          try clear hcz5_3
          try clear hcz5_4
          try clear hcz5_5
          try clear hcz5_6
          try clear hcz5_7
          try clear hcz7_0
          try clear hcz7_1
          try clear hcz7_2
          try clear hcz7_3
          try clear hcz7_4
          try clear hcz7_5
          try clear hcz7_6
          try clear hcz7_7
          try clear hcz9_0
          try clear hcz9_1
          try clear hcz9_2
          try clear hcz9_3
          try clear hcz9_4
          try clear hcz9_5
          try clear hcz9_6
          try clear hcz9_7
          try clear hfz10_0
          try clear hfz10_1
          try clear hfz10_2
          try clear hfz10_3
          try clear hfz10_4
          try clear hfz10_5
          try clear hfz10_6
          try clear hfz10_7
          try clear hfz5_0
          try clear hfz5_1
          try clear hfz5_2
          try clear hfz5_3
          try clear hfz5_4
          try clear hfz5_5
          try clear hfz5_6
          try clear hfz5_7
          try clear hfz7_0
          try clear hfz7_1
          try clear hfz7_2
          try clear hfz7_3
          try clear hfz7_4
          try clear hfz7_5
          try clear hfz7_6
          try clear hfz7_7
          try clear hfz9_0
          try clear hfz9_1
          try clear hfz9_2
          try clear hfz9_3
          try clear hfz9_4
          try clear hfz9_5
          try clear hfz9_6
          try clear hfz9_7
          try clear p2
          try clear p6
          obtain ⟨x3_2, rfl, HA, HK2, BK101, HB⟩ := hrel
          cases gk with
          | zero => exact absurd HA.out (by simp [fastilaw07_small.l0])
          | succ k2 =>
            have H := HA.out
            clear HA
            simp only [fastilaw07_small.l0] at H
            by_cases c12 : x3_2 < (l0_2.length : Int)
            · rw [if_pos c12] at H
              have c12b0 : decide (x3_2 < (l0_2.length : Int)) = true := decide_eq_true c12
              clear c12
              by_cases c13 : 0 ≤ x3_2
              · rw [if_pos c13] at H
                have c13b0 : decide (0 ≤ x3_2) = true := decide_eq_true c13
                clear c13
                by_cases c14 : (((rd_T55 l0_2 x3_2).f2.f2).size : Int) > 200
                · rw [if_pos c14] at H
                  have c14b0 : decide (200 < (((rd_T55 l0_2 x3_2).f2.f2).size : Int)) = true := decide_eq_true c14
                  have c14b1 : decide (200 < ((rd_T55 l0_2 x3_2).f2.f2).size) = true := decide_eq_true (by omega)
                  clear c14
                  obtain rfl := Option.some.inj H
                  have hcz15_0 : wr.cell? ⟨gb101, 0, none⟩ = some (.int .i64 a0_0) := (blk_cell BK101.out 0).trans rfl
                  have hcz15_1 : wr.cell? ⟨gb101, 1, none⟩ = some (.string a0_1) := (blk_cell BK101.out 1).trans rfl
                  have hcz15_2 : wr.cell? ⟨gb101, 2, none⟩ = some (.slice A0_2 l0_2.length c0_2) := (blk_cell BK101.out 2).trans rfl
                  have hcz15_3 : wr.cell? ⟨gb101, 3, none⟩ = some (.slice A0_3 l0_3.length c0_3) := (blk_cell BK101.out 3).trans rfl
                  have hcz15_4 : wr.cell? ⟨gb101, 4, none⟩ = some (.slice A0_4 l0_4.length c0_4) := (blk_cell BK101.out 4).trans rfl
                  have hcz15_5 : wr.cell? ⟨gb101, 5, none⟩ = some (.int .i64 a0_5) := (blk_cell BK101.out 5).trans rfl
                  have hcz15_6 : wr.cell? ⟨gb101, 6, none⟩ = some (.string a0_6) := (blk_cell BK101.out 6).trans rfl
                  have hcz15_7 : wr.cell? ⟨gb101, 7, none⟩ = some (.string a0_7) := (blk_cell BK101.out 7).trans rfl
                  have hfz15_0 := blk_frozen BK101.out 0
                  have hfz15_1 := blk_frozen BK101.out 1
                  have hfz15_2 := blk_frozen BK101.out 2
                  have hfz15_3 := blk_frozen BK101.out 3
                  have hfz15_4 := blk_frozen BK101.out 4
                  have hfz15_5 := blk_frozen BK101.out 5
                  have hfz15_6 := blk_frozen BK101.out 6
                  have hfz15_7 := blk_frozen BK101.out 7
                  have p102 : 0 ≤ (x3_2 : Int) := of_decide_eq_true (by first | (with_reducible assumption) | assumption)
                  have q102 : x3_2 < (l0_2.length : Int) := of_decide_eq_true (by first | (with_reducible assumption) | assumption)
                  obtain ⟨ad102, e102, hx102_0, hx102_1, hx102_2, hx102_3, hx102_4⟩ := at_T55 HR0_2.out x3_2 p102 q102
                  cases e102
                  replace hx102_0 := (HB.out.cell (World.block_lt_of_cell? w _ hx102_0)).trans hx102_0
                  replace hx102_1 := (HB.out.cell (World.block_lt_of_cell? w _ hx102_1)).trans hx102_1
                  replace hx102_2 := (HB.out.cell (World.block_lt_of_cell? w _ hx102_2)).trans hx102_2
                  replace hx102_3 := (HB.out.cell (World.block_lt_of_cell? w _ hx102_3)).trans hx102_3
                  replace hx102_4 := (HB.out.cell (World.block_lt_of_cell? w _ hx102_4)).trans hx102_4
                  replace p102 := eq_true p102
                  replace q102 := eq_true q102
                  go_wp2
                  go_ret
                  exact ⟨by first | rfl | (simp [errW_none, errW_some] <;> rfl) | (simp [*, errW_none, errW_some] <;> rfl), by repeat (first | (with_reducible first | exact HB.out | apply below_alloc | apply pw_below_drewN | apply below_drew1 | refine below_set ?_ GE101.out) | exact HB.out)⟩
                · rw [if_neg c14] at H
                  have c14b0 : decide (200 < (((rd_T55 l0_2 x3_2).f2.f2).size : Int)) = false := decide_eq_false c14
                  have c14b1 : decide (200 < ((rd_T55 l0_2 x3_2).f2.f2).size) = false := decide_eq_false (by omega)
                  clear c14
                  have H' := Aside0.mk H
                  clear H
                  have hcz16_0 : wr.cell? ⟨gb101, 0, none⟩ = some (.int .i64 a0_0) := (blk_cell BK101.out 0).trans rfl
                  have hcz16_1 : wr.cell? ⟨gb101, 1, none⟩ = some (.string a0_1) := (blk_cell BK101.out 1).trans rfl
                  have hcz16_2 : wr.cell? ⟨gb101, 2, none⟩ = some (.slice A0_2 l0_2.length c0_2) := (blk_cell BK101.out 2).trans rfl
                  have hcz16_3 : wr.cell? ⟨gb101, 3, none⟩ = some (.slice A0_3 l0_3.length c0_3) := (blk_cell BK101.out 3).trans rfl
                  have hcz16_4 : wr.cell? ⟨gb101, 4, none⟩ = some (.slice A0_4 l0_4.length c0_4) := (blk_cell BK101.out 4).trans rfl
                  have hcz16_5 : wr.cell? ⟨gb101, 5, none⟩ = some (.int .i64 a0_5) := (blk_cell BK101.out 5).trans rfl
                  have hcz16_6 : wr.cell? ⟨gb101, 6, none⟩ = some (.string a0_6) := (blk_cell BK101.out 6).trans rfl
                  have hcz16_7 : wr.cell? ⟨gb101, 7, none⟩ = some (.string a0_7) := (blk_cell BK101.out 7).trans rfl
                  have hfz16_0 := blk_frozen BK101.out 0
                  have hfz16_1 := blk_frozen BK101.out 1
                  have hfz16_2 := blk_frozen BK101.out 2
                  have hfz16_3 := blk_frozen BK101.out 3
                  have hfz16_4 := blk_frozen BK101.out 4
                  have hfz16_5 := blk_frozen BK101.out 5
                  have hfz16_6 := blk_frozen BK101.out 6
                  have hfz16_7 := blk_frozen BK101.out 7
                  have p102 : 0 ≤ (x3_2 : Int) := of_decide_eq_true (by first | (with_reducible assumption) | assumption)
                  have q102 : x3_2 < (l0_2.length : Int) := of_decide_eq_true (by first | (with_reducible assumption) | assumption)
                  obtain ⟨ad102, e102, hx102_0, hx102_1, hx102_2, hx102_3, hx102_4⟩ := at_T55 HR0_2.out x3_2 p102 q102
                  cases e102
                  replace hx102_0 := (HB.out.cell (World.block_lt_of_cell? w _ hx102_0)).trans hx102_0
                  replace hx102_1 := (HB.out.cell (World.block_lt_of_cell? w _ hx102_1)).trans hx102_1
                  replace hx102_2 := (HB.out.cell (World.block_lt_of_cell? w _ hx102_2)).trans hx102_2
                  replace hx102_3 := (HB.out.cell (World.block_lt_of_cell? w _ hx102_3)).trans hx102_3
                  replace hx102_4 := (HB.out.cell (World.block_lt_of_cell? w _ hx102_4)).trans hx102_4
                  replace p102 := eq_true p102
                  replace q102 := eq_true q102
                  go_wp2
                  go_roundg k2
                  case measure => have := HJ1.out; have := HK2.out; omega
                  case rel => exact ⟨(wrap64 (x3_2 + 1)), (by first | rfl | (simp; done) | (simp [*]; done)), H', ⟨by have := HJ1.out; have := HK2.out; omega⟩, ⟨by (with_reducible repeat (first | refine blk_drewN ?_ _ | refine blk_drew ?_ | refine blk_alloc ?_ _)); exact BK101.out⟩, ⟨by repeat (first | (with_reducible first | exact HB.out | apply below_alloc | apply pw_below_drewN | apply below_drew1 | refine below_set ?_ GE101.out) | exact HB.out)⟩⟩
              · rw [if_neg c13] at H
                exact absurd H (by simp)
            · rw [if_neg c12] at H
              have c12b0 : decide (x3_2 < (l0_2.length : Int)) = false := decide_eq_false c12
              clear c12
              have H' := Aside0.mk H
              clear H
              have hcz17_0 : wr.cell? ⟨gb101, 0, none⟩ = some (.int .i64 a0_0) := (blk_cell BK101.out 0).trans rfl
              have hcz17_1 : wr.cell? ⟨gb101, 1, none⟩ = some (.string a0_1) := (blk_cell BK101.out 1).trans rfl
              have hcz17_2 : wr.cell? ⟨gb101, 2, none⟩ = some (.slice A0_2 l0_2.length c0_2) := (blk_cell BK101.out 2).trans rfl
              have hcz17_3 : wr.cell? ⟨gb101, 3, none⟩ = some (.slice A0_3 l0_3.length c0_3) := (blk_cell BK101.out 3).trans rfl
              have hcz17_4 : wr.cell? ⟨gb101, 4, none⟩ = some (.slice A0_4 l0_4.length c0_4) := (blk_cell BK101.out 4).trans rfl
              have hcz17_5 : wr.cell? ⟨gb101, 5, none⟩ = some (.int .i64 a0_5) := (blk_cell BK101.out 5).trans rfl
              have hcz17_6 : wr.cell? ⟨gb101, 6, none⟩ = some (.string a0_6) := (blk_cell BK101.out 6).trans rfl
              have hcz17_7 : wr.cell? ⟨gb101, 7, none⟩ = some (.string a0_7) := (blk_cell BK101.out 7).trans rfl
              have hfz17_0 := blk_frozen BK101.out 0
              have hfz17_1 := blk_frozen BK101.out 1
              have hfz17_2 := blk_frozen BK101.out 2
              have hfz17_3 := blk_frozen BK101.out 3
              have hfz17_4 := blk_frozen BK101.out 4
              have hfz17_5 := blk_frozen BK101.out 5
              have hfz17_6 := blk_frozen BK101.out 6
              have hfz17_7 := blk_frozen BK101.out 7
              go_wp2
              go_loopg [4] k2 (fun kq v4 w' => ∃ (x4_3 : Int), v4 = .int .i64 x4_3 ∧ Aside0 (fastilaw07_small.l1 kq x4_3 a0_0 a0_1 l0_2 l0_3 l0_4 a0_5 a0_6 a0_7 = some r) ∧ Aside0 (kq ≤ k2) ∧ Aside0 (w'.heap[gb101]? = some (.cells #[.int .i64 a0_0, .string a0_1, (.slice A0_2 l0_2.length c0_2), (.slice A0_3 l0_3.length c0_3), (.slice A0_4 l0_4.length c0_4), .int .i64 a0_5, .string a0_6, .string a0_7] 27 (0, 0))) ∧ Aside0 (Below w.heap.size w w'))
              case atStart => exact ⟨(0), (by first | rfl | (simp; done) | (simp [*]; done)), H', ⟨Nat.le_refl _⟩, ⟨by (with_reducible repeat (first | refine blk_drewN ?_ _ | refine blk_drew ?_ | refine blk_alloc ?_ _)); exact BK101.out⟩, ⟨by repeat (first | (with_reducible first | exact HB.out | apply below_alloc | apply pw_below_drewN | apply below_drew1 | refine below_set ?_ GE101.out) | exact HB.out)⟩⟩
              case round =>
                clear H'
                try clear c1
                try clear p1
                try clear q1
                try clear hx1
                try clear p2
                try clear c4
                try clear c4b0
                try clear c6
                try clear c6b0
                try clear c6b1
                try clear p6
                try clear c8
                try clear c8b0
                try clear c8b1
                try clear p10
                try clear q10
                try clear hx10
                try clear c11
                try clear c12
                try clear c12b0
                try clear c13
                try clear c13b0
                try clear c14
                try clear c14b0
                try clear c14b1
                try clear hcz10_0
                try clear hcz10_1
                try clear hcz10_2
                try clear hcz10_3
                try clear hcz10_4
                try clear hcz10_5
                try clear hcz10_6
                try clear hcz10_7
                try clear hcz15_0
                try clear hcz15_1
                try clear hcz15_2
                try clear hcz15_3
                try clear hcz15_4
                try clear hcz15_5
                try clear hcz15_6
                try clear hcz15_7
                try clear hcz16_0
                try clear hcz16_1
                try clear hcz16_2
                try clear hcz16_3
                try clear hcz16_4
                try clear hcz16_5
                try clear hcz16_6
                try clear hcz16_7
                try clear hcz17_0
                try clear hcz17_1
                try clear hcz17_2
                try clear hcz17_3
                try clear hcz17_4
                try clear hcz17_5
                try clear hcz17_6
                try clear hcz17_7
                try clear hcz5_0
                try clear hcz5_1
                try clear hcz5_2
                try clear hcz5_3
                try clear hcz5_4
                try clear hcz5_5
                try clear hcz5_6
                try clear hcz5_7
                try clear hcz7_0
                try clear hcz7_1
                try clear hcz7_2
                try clear hcz7_3
                try clear hcz7_4
                try clear hcz7_5
                try clear hcz7_6
                try clear hcz7_7
                try clear hcz9_0
                try clear hcz9_1
                try clear hcz9_2
                try clear hcz9_3
                try clear hcz9_4
                try clear hcz9_5
                try clear hcz9_6
                try clear hcz9_7
                try clear hfz10_0
                try clear hfz10_1
                try clear hfz10_2
                try clear hfz10_3
                try clear hfz10_4
                try clear hfz10_5
                try clear hfz10_6
                try clear hfz10_7
                try clear hfz15_0
                try clear hfz15_1
                try clear hfz15_2
                try clear hfz15_3
                try clear hfz15_4
                try clear hfz15_5
                try clear hfz15_6
                try clear hfz15_7
                try clear hfz16_0
                try clear hfz16_1
                try clear hfz16_2
                try clear hfz16_3
                try clear hfz16_4
                try clear hfz16_5
                try clear hfz16_6
                try clear hfz16_7
                try clear hfz17_0
                try clear hfz17_1
                try clear hfz17_2
                try clear hfz17_3
                try clear hfz17_4
                try clear hfz17_5
                try clear hfz17_6
                try clear hfz17_7
                try clear hfz5_0
                try clear hfz5_1
                try clear hfz5_2
                try clear hfz5_3
                try clear hfz5_4
                try clear hfz5_5
                try clear hfz5_6
                try clear hfz5_7
                try clear hfz7_0
                try clear hfz7_1
                try clear hfz7_2
                try clear hfz7_3
                try clear hfz7_4
                try clear hfz7_5
                try clear hfz7_6
                try clear hfz7_7
                try clear hfz9_0
                try clear hfz9_1
                try clear hfz9_2
                try clear hfz9_3
                try clear hfz9_4
                try clear hfz9_5
                try clear hfz9_6
                try clear hfz9_7
                try clear hx102_0
                try clear hx102_1
                try clear hx102_2
                try clear hx102_3
                try clear hx102_4
                try clear p102
                try clear p2
                try clear p6
                try clear q102
                obtain ⟨x4_3, rfl, HA, HK3, BK101, HB⟩ := hrel
                cases gk with
                | zero => exact absurd HA.out (by simp [fastilaw07_small.l1])
                | succ k3 =>
                  have H := HA.out
                  clear HA
                  simp only [fastilaw07_small.l1] at H
                  by_cases c18 : x4_3 < (l0_3.length : Int)
                  · rw [if_pos c18] at H
                    have c18b0 : decide (x4_3 < (l0_3.length : Int)) = true := decide_eq_true c18
                    clear c18
                    by_cases c19 : 0 ≤ x4_3
                    · rw [if_pos c19] at H
                      have c19b0 : decide (0 ≤ x4_3) = true := decide_eq_true c19
                      clear c19
                      by_cases c20 : (((rd_T60 l0_3 x4_3).f1).size : Int) > 100
                      · rw [if_pos c20] at H
                        have c20b0 : decide (100 < (((rd_T60 l0_3 x4_3).f1).size : Int)) = true := decide_eq_true c20
                        have c20b1 : decide (100 < ((rd_T60 l0_3 x4_3).f1).size) = true := decide_eq_true (by omega)
                        clear c20
                        obtain rfl := Option.some.inj H
                        have hcz21_0 : wr.cell? ⟨gb101, 0, none⟩ = some (.int .i64 a0_0) := (blk_cell BK101.out 0).trans rfl
                        have hcz21_1 : wr.cell? ⟨gb101, 1, none⟩ = some (.string a0_1) := (blk_cell BK101.out 1).trans rfl
                        have hcz21_2 : wr.cell? ⟨gb101, 2, none⟩ = some (.slice A0_2 l0_2.length c0_2) := (blk_cell BK101.out 2).trans rfl
                        have hcz21_3 : wr.cell? ⟨gb101, 3, none⟩ = some (.slice A0_3 l0_3.length c0_3) := (blk_cell BK101.out 3).trans rfl
                        have hcz21_4 : wr.cell? ⟨gb101, 4, none⟩ = some (.slice A0_4 l0_4.length c0_4) := (blk_cell BK101.out 4).trans rfl
                        have hcz21_5 : wr.cell? ⟨gb101, 5, none⟩ = some (.int .i64 a0_5) := (blk_cell BK101.out 5).trans rfl
                        have hcz21_6 : wr.cell? ⟨gb101, 6, none⟩ = some (.string a0_6) := (blk_cell BK101.out 6).trans rfl
                        have hcz21_7 : wr.cell? ⟨gb101, 7, none⟩ = some (.string a0_7) := (blk_cell BK101.out 7).trans rfl
                        have hfz21_0 := blk_frozen BK101.out 0
                        have hfz21_1 := blk_frozen BK101.out 1
                        have hfz21_2 := blk_frozen BK101.out 2
                        have hfz21_3 := blk_frozen BK101.out 3
                        have hfz21_4 := blk_frozen BK101.out 4
                        have hfz21_5 := blk_frozen BK101.out 5
                        have hfz21_6 := blk_frozen BK101.out 6
                        have hfz21_7 := blk_frozen BK101.out 7
                        have p103 : 0 ≤ (x4_3 : Int) := of_decide_eq_true (by first | (with_reducible assumption) | assumption)
                        have q103 : x4_3 < (l0_3.length : Int) := of_decide_eq_true (by first | (with_reducible assumption) | assumption)
                        obtain ⟨ad103, e103, hx103_0, hx103_1⟩ := at_T60 HR0_3.out x4_3 p103 q103
                        cases e103
                        replace hx103_0 := (HB.out.cell (World.block_lt_of_cell? w _ hx103_0)).trans hx103_0
                        replace hx103_1 := (HB.out.cell (World.block_lt_of_cell? w _ hx103_1)).trans hx103_1
                        replace p103 := eq_true p103
                        replace q103 := eq_true q103
                        go_wp2
                        go_ret
                        exact ⟨by first | rfl | (simp [errW_none, errW_some] <;> rfl) | (simp [*, errW_none, errW_some] <;> rfl), by repeat (first | (with_reducible first | exact HB.out | apply below_alloc | apply pw_below_drewN | apply below_drew1 | refine below_set ?_ GE101.out) | exact HB.out)⟩
                      · rw [if_neg c20] at H
                        have c20b0 : decide (100 < (((rd_T60 l0_3 x4_3).f1).size : Int)) = false := decide_eq_false c20
                        have c20b1 : decide (100 < ((rd_T60 l0_3 x4_3).f1).size) = false := decide_eq_false (by omega)
                        clear c20
                        have H' := Aside0.mk H
                        clear H
                        have hcz22_0 : wr.cell? ⟨gb101, 0, none⟩ = some (.int .i64 a0_0) := (blk_cell BK101.out 0).trans rfl
                        have hcz22_1 : wr.cell? ⟨gb101, 1, none⟩ = some (.string a0_1) := (blk_cell BK101.out 1).trans rfl
                        have hcz22_2 : wr.cell? ⟨gb101, 2, none⟩ = some (.slice A0_2 l0_2.length c0_2) := (blk_cell BK101.out 2).trans rfl
                        have hcz22_3 : wr.cell? ⟨gb101, 3, none⟩ = some (.slice A0_3 l0_3.length c0_3) := (blk_cell BK101.out 3).trans rfl
                        have hcz22_4 : wr.cell? ⟨gb101, 4, none⟩ = some (.slice A0_4 l0_4.length c0_4) := (blk_cell BK101.out 4).trans rfl
                        have hcz22_5 : wr.cell? ⟨gb101, 5, none⟩ = some (.int .i64 a0_5) := (blk_cell BK101.out 5).trans rfl
                        have hcz22_6 : wr.cell? ⟨gb101, 6, none⟩ = some (.string a0_6) := (blk_cell BK101.out 6).trans rfl
                        have hcz22_7 : wr.cell? ⟨gb101, 7, none⟩ = some (.string a0_7) := (blk_cell BK101.out 7).trans rfl
                        have hfz22_0 := blk_frozen BK101.out 0
                        have hfz22_1 := blk_frozen BK101.out 1
                        have hfz22_2 := blk_frozen BK101.out 2
                        have hfz22_3 := blk_frozen BK101.out 3
                        have hfz22_4 := blk_frozen BK101.out 4
                        have hfz22_5 := blk_frozen BK101.out 5
                        have hfz22_6 := blk_frozen BK101.out 6
                        have hfz22_7 := blk_frozen BK101.out 7
                        have p103 : 0 ≤ (x4_3 : Int) := of_decide_eq_true (by first | (with_reducible assumption) | assumption)
                        have q103 : x4_3 < (l0_3.length : Int) := of_decide_eq_true (by first | (with_reducible assumption) | assumption)
                        obtain ⟨ad103, e103, hx103_0, hx103_1⟩ := at_T60 HR0_3.out x4_3 p103 q103
                        cases e103
                        replace hx103_0 := (HB.out.cell (World.block_lt_of_cell? w _ hx103_0)).trans hx103_0
                        replace hx103_1 := (HB.out.cell (World.block_lt_of_cell? w _ hx103_1)).trans hx103_1
                        replace p103 := eq_true p103
                        replace q103 := eq_true q103
                        go_wp2
                        go_roundg k3
                        case measure => have := HJ1.out; have := HK2.out; have := HK3.out; omega
                        case rel => exact ⟨(wrap64 (x4_3 + 1)), (by first | rfl | (simp; done) | (simp [*]; done)), H', ⟨by have := HJ1.out; have := HK2.out; have := HK3.out; omega⟩, ⟨by (with_reducible repeat (first | refine blk_drewN ?_ _ | refine blk_drew ?_ | refine blk_alloc ?_ _)); exact BK101.out⟩, ⟨by repeat (first | (with_reducible first | exact HB.out | apply below_alloc | apply pw_below_drewN | apply below_drew1 | refine below_set ?_ GE101.out) | exact HB.out)⟩⟩
                    · rw [if_neg c19] at H
                      exact absurd H (by simp)
                  · rw [if_neg c18] at H
                    have c18b0 : decide (x4_3 < (l0_3.length : Int)) = false := decide_eq_false c18
                    clear c18
                    have H' := Aside0.mk H
                    clear H
                    have hcz23_0 : wr.cell? ⟨gb101, 0, none⟩ = some (.int .i64 a0_0) := (blk_cell BK101.out 0).trans rfl
                    have hcz23_1 : wr.cell? ⟨gb101, 1, none⟩ = some (.string a0_1) := (blk_cell BK101.out 1).trans rfl
                    have hcz23_2 : wr.cell? ⟨gb101, 2, none⟩ = some (.slice A0_2 l0_2.length c0_2) := (blk_cell BK101.out 2).trans rfl
                    have hcz23_3 : wr.cell? ⟨gb101, 3, none⟩ = some (.slice A0_3 l0_3.length c0_3) := (blk_cell BK101.out 3).trans rfl
                    have hcz23_4 : wr.cell? ⟨gb101, 4, none⟩ = some (.slice A0_4 l0_4.length c0_4) := (blk_cell BK101.out 4).trans rfl
                    have hcz23_5 : wr.cell? ⟨gb101, 5, none⟩ = some (.int .i64 a0_5) := (blk_cell BK101.out 5).trans rfl
                    have hcz23_6 : wr.cell? ⟨gb101, 6, none⟩ = some (.string a0_6) := (blk_cell BK101.out 6).trans rfl
                    have hcz23_7 : wr.cell? ⟨gb101, 7, none⟩ = some (.string a0_7) := (blk_cell BK101.out 7).trans rfl
                    have hfz23_0 := blk_frozen BK101.out 0
                    have hfz23_1 := blk_frozen BK101.out 1
                    have hfz23_2 := blk_frozen BK101.out 2
                    have hfz23_3 := blk_frozen BK101.out 3
                    have hfz23_4 := blk_frozen BK101.out 4
                    have hfz23_5 := blk_frozen BK101.out 5
                    have hfz23_6 := blk_frozen BK101.out 6
                    have hfz23_7 := blk_frozen BK101.out 7
                    go_wp2
                    go_loopg [5] k3 (fun kq v5 w' => ∃ (x5_4 : Int), v5 = .int .i64 x5_4 ∧ Aside0 (fastilaw07_small.l2 kq x5_4 a0_0 a0_1 l0_2 l0_3 l0_4 a0_5 a0_6 a0_7 = some r) ∧ Aside0 (kq ≤ k3) ∧ Aside0 (w'.heap[gb101]? = some (.cells #[.int .i64 a0_0, .string a0_1, (.slice A0_2 l0_2.length c0_2), (.slice A0_3 l0_3.length c0_3), (.slice A0_4 l0_4.length c0_4), .int .i64 a0_5, .string a0_6, .string a0_7] 27 (0, 0))) ∧ Aside0 (Below w.heap.size w w'))
                    case atStart => exact ⟨(0), (by first | rfl | (simp; done) | (simp [*]; done)), H', ⟨Nat.le_refl _⟩, ⟨by (with_reducible repeat (first | refine blk_drewN ?_ _ | refine blk_drew ?_ | refine blk_alloc ?_ _)); exact BK101.out⟩, ⟨by repeat (first | (with_reducible first | exact HB.out | apply below_alloc | apply pw_below_drewN | apply below_drew1 | refine below_set ?_ GE101.out) | exact HB.out)⟩⟩
                    case round =>
                      clear H'
                      try clear c1
                      try clear p1
                      try clear q1
                      try clear hx1
                      try clear c2
                      try clear p2
                      try clear c4
                      try clear c4b0
                      try clear c6
                      try clear c6b0
                      try clear c6b1
                      try clear p6
                      try clear c8
                      try clear c8b0
                      try clear c8b1
                      try clear p10
                      try clear q10
                      try clear hx10
                      try clear c11
                      try clear c12
                      try clear c12b0
                      try clear c13
                      try clear c13b0
                      try clear c14
                      try clear c14b0
                      try clear c14b1
                      try clear c18
                      try clear c18b0
                      try clear c19
                      try clear c19b0
                      try clear c20
                      try clear c20b0
                      try clear c20b1
                      try clear hcz10_0
                      try clear hcz10_1
                      try clear hcz10_2
                      try clear hcz10_3
                      try clear hcz10_4
                      try clear hcz10_5
                      try clear hcz10_6
                      try clear hcz10_7
                      try clear hcz15_0
                      try clear hcz15_1
                      try clear hcz15_2
                      try clear hcz15_3
                      try clear hcz15_4
                      try clear hcz15_5
                      try clear hcz15_6
                      try clear hcz15_7
                      try clear hcz16_0
                      try clear hcz16_1
                      try clear hcz16_2
                      try clear hcz16_3
                      try clear hcz16_4
                      try clear hcz16_5
                      try clear hcz16_6
                      try clear hcz16_7
                      try clear hcz17_0
                      try clear hcz17_1
                      try clear hcz17_2
                      try clear hcz17_3
                      try clear hcz17_4
                      try clear hcz17_5
                      try clear hcz17_6
                      try clear hcz17_7
                      try clear hcz21_0
                      try clear hcz21_1
                      try clear hcz21_2
                      try clear hcz21_3
                      try clear hcz21_4
                      try clear hcz21_5
                      try clear hcz21_6
                      try clear hcz21_7
                      try clear hcz22_0
                      try clear hcz22_1
                      try clear hcz22_2
                      try clear hcz22_3
                      try clear hcz22_4
                      try clear hcz22_5
                      try clear hcz22_6
                      try clear hcz22_7
                      try clear hcz23_0
                      try clear hcz23_1
                      try clear hcz23_2
                      try clear hcz23_3
                      try clear hcz23_4
                      try clear hcz23_5
                      try clear hcz23_6
                      try clear hcz23_7
                      try clear hcz5_0
                      try clear hcz5_1
                      try clear hcz5_2
                      try clear hcz5_3
                      try clear hcz5_4
                      try clear hcz5_5
                      try clear hcz5_6
                      try clear hcz5_7
                      try clear hcz7_0
                      try clear hcz7_1
                      try clear hcz7_2
                      try clear hcz7_3
                      try clear hcz7_4
                      try clear hcz7_5
                      try clear hcz7_6
                      try clear hcz7_7
                      try clear hcz9_0
                      try clear hcz9_1
                      try clear hcz9_2
                      try clear hcz9_3
                      try clear hcz9_4
                      try clear hcz9_5
                      try clear hcz9_6
                      try clear hcz9_7
                      try clear hfz10_0
                      try clear hfz10_1
                      try clear hfz10_2
                      try clear hfz10_3
                      try clear hfz10_4
                      try clear hfz10_5
                      try clear hfz10_6
                      try clear hfz10_7
                      try clear hfz15_0
                      try clear hfz15_1
                      try clear hfz15_2
                      try clear hfz15_3
                      try clear hfz15_4
                      try clear hfz15_5
                      try clear hfz15_6
                      try clear hfz15_7
                      try clear hfz16_0
                      try clear hfz16_1
                      try clear hfz16_2
                      try clear hfz16_3
                      try clear hfz16_4
                      try clear hfz16_5
                      try clear hfz16_6
                      try clear hfz16_7
                      try clear hfz17_0
                      try clear hfz17_1
                      try clear hfz17_2
                      try clear hfz17_3
                      try clear hfz17_4
                      try clear hfz17_5
                      try clear hfz17_6
                      try clear hfz17_7
                      try clear hfz21_0
                      try clear hfz21_1
                      try clear hfz21_2
                      try clear hfz21_3
                      try clear hfz21_4
                      try clear hfz21_5
                      try clear hfz21_6
                      try clear hfz21_7
                      try clear hfz22_0
                      try clear hfz22_1
                      try clear hfz22_2
                      try clear hfz22_3
                      try clear hfz22_4
                      try clear hfz22_5
                      try clear hfz22_6
                      try clear hfz22_7
                      try clear hfz23_0
                      try clear hfz23_1
                      try clear hfz23_2
                      try clear hfz23_3
                      try clear hfz23_4
                      try clear hfz23_5
                      try clear hfz23_6
                      try clear hfz23_7
                      try clear hfz5_0
                      try clear hfz5_1
                      try clear hfz5_2
                      try clear hfz5_3
                      try clear hfz5_4
                      try clear hfz5_5
                      try clear hfz5_6
                      try clear hfz5_7
                      try clear hfz7_0
                      try clear hfz7_1
                      try clear hfz7_2
                      try clear hfz7_3
                      try clear hfz7_4
                      try clear hfz7_5
                      try clear hfz7_6
                      try clear hfz7_7
                      try clear hfz9_0
                      try clear hfz9_1
                      try clear hfz9_2
                      try clear hfz9_3
                      try clear hfz9_4
                      try clear hfz9_5
                      try clear hfz9_6
                      try clear hfz9_7
                      try clear hx102_0
                      try clear hx102_1
                      try clear hx102_2
                      try clear hx102_3
                      try clear hx102_4
                      try clear hx103_0
                      try clear hx103_1
                      try clear p1
                      try clear p10
                      try clear p102
                      try clear p103
                      try clear p2
                      try clear p6
                      try clear q1
                      try clear q10
                      try clear q102
                      try clear q103
                      obtain ⟨x5_4, rfl, HA, HK4, BK101, HB⟩ := hrel
                      cases gk with
                      | zero => exact absurd HA.out (by simp [fastilaw07_small.l2])
                      | succ k4 =>
                        have H := HA.out
                        clear HA
                        simp only [fastilaw07_small.l2] at H
                        by_cases c24 : x5_4 < (l0_4.length : Int)
                        · rw [if_pos c24] at H
                          have c24b0 : decide (x5_4 < (l0_4.length : Int)) = true := decide_eq_true c24
                          clear c24
                          by_cases c25 : 0 ≤ x5_4
                          · rw [if_pos c25] at H
                            have c25b0 : decide (0 ≤ x5_4) = true := decide_eq_true c25
                            clear c25
                            by_cases c26 : ((rdOf ByteArray.empty l0_4 x5_4).size : Int) > 100
                            · rw [if_pos c26] at H
                              have c26b0 : decide (100 < ((rdOf ByteArray.empty l0_4 x5_4).size : Int)) = true := decide_eq_true c26
                              have c26b1 : decide (100 < (rdOf ByteArray.empty l0_4 x5_4).size) = true := decide_eq_true (by omega)
                              clear c26
                              obtain rfl := Option.some.inj H
                              have hcz27_0 : wr.cell? ⟨gb101, 0, none⟩ = some (.int .i64 a0_0) := (blk_cell BK101.out 0).trans rfl
                              have hcz27_1 : wr.cell? ⟨gb101, 1, none⟩ = some (.string a0_1) := (blk_cell BK101.out 1).trans rfl
                              have hcz27_2 : wr.cell? ⟨gb101, 2, none⟩ = some (.slice A0_2 l0_2.length c0_2) := (blk_cell BK101.out 2).trans rfl
                              have hcz27_3 : wr.cell? ⟨gb101, 3, none⟩ = some (.slice A0_3 l0_3.length c0_3) := (blk_cell BK101.out 3).trans rfl
                              have hcz27_4 : wr.cell? ⟨gb101, 4, none⟩ = some (.slice A0_4 l0_4.length c0_4) := (blk_cell BK101.out 4).trans rfl
                              have hcz27_5 : wr.cell? ⟨gb101, 5, none⟩ = some (.int .i64 a0_5) := (blk_cell BK101.out 5).trans rfl
                              have hcz27_6 : wr.cell? ⟨gb101, 6, none⟩ = some (.string a0_6) := (blk_cell BK101.out 6).trans rfl
                              have hcz27_7 : wr.cell? ⟨gb101, 7, none⟩ = some (.string a0_7) := (blk_cell BK101.out 7).trans rfl
                              have hfz27_0 := blk_frozen BK101.out 0
                              have hfz27_1 := blk_frozen BK101.out 1
                              have hfz27_2 := blk_frozen BK101.out 2
                              have hfz27_3 := blk_frozen BK101.out 3
                              have hfz27_4 := blk_frozen BK101.out 4
                              have hfz27_5 := blk_frozen BK101.out 5
                              have hfz27_6 := blk_frozen BK101.out 6
                              have hfz27_7 := blk_frozen BK101.out 7
                              have p104 : 0 ≤ (x5_4 : Int) := of_decide_eq_true (by first | (with_reducible assumption) | assumption)
                              have q104 : x5_4 < (l0_4.length : Int) := of_decide_eq_true (by first | (with_reducible assumption) | assumption)
                              obtain ⟨ad104, e104, hx104_0⟩ := Kd.at_string HR0_4.out x5_4 p104 q104
                              cases e104
                              replace hx104_0 := (HB.out.cell (World.block_lt_of_cell? w _ hx104_0)).trans hx104_0
                              replace p104 := eq_true p104
                              replace q104 := eq_true q104
                              go_wp2
                              go_ret
                              exact ⟨by first | rfl | (simp [errW_none, errW_some] <;> rfl) | (simp [*, errW_none, errW_some] <;> rfl), by repeat (first | (with_reducible first | exact HB.out | apply below_alloc | apply pw_below_drewN | apply below_drew1 | refine below_set ?_ GE101.out) | exact HB.out)⟩
                            · rw [if_neg c26] at H
                              have c26b0 : decide (100 < ((rdOf ByteArray.empty l0_4 x5_4).size : Int)) = false := decide_eq_false c26
                              have c26b1 : decide (100 < (rdOf ByteArray.empty l0_4 x5_4).size) = false := decide_eq_false (by omega)
                              clear c26
                              have H' := Aside0.mk H
                              clear H
                              have hcz28_0 : wr.cell? ⟨gb101, 0, none⟩ = some (.int .i64 a0_0) := (blk_cell BK101.out 0).trans rfl
                              have hcz28_1 : wr.cell? ⟨gb101, 1, none⟩ = some (.string a0_1) := (blk_cell BK101.out 1).trans rfl
                              have hcz28_2 : wr.cell? ⟨gb101, 2, none⟩ = some (.slice A0_2 l0_2.length c0_2) := (blk_cell BK101.out 2).trans rfl
                              have hcz28_3 : wr.cell? ⟨gb101, 3, none⟩ = some (.slice A0_3 l0_3.length c0_3) := (blk_cell BK101.out 3).trans rfl
                              have hcz28_4 : wr.cell? ⟨gb101, 4, none⟩ = some (.slice A0_4 l0_4.length c0_4) := (blk_cell BK101.out 4).trans rfl
                              have hcz28_5 : wr.cell? ⟨gb101, 5, none⟩ = some (.int .i64 a0_5) := (blk_cell BK101.out 5).trans rfl
                              have hcz28_6 : wr.cell? ⟨gb101, 6, none⟩ = some (.string a0_6) := (blk_cell BK101.out 6).trans rfl
                              have hcz28_7 : wr.cell? ⟨gb101, 7, none⟩ = some (.string a0_7) := (blk_cell BK101.out 7).trans rfl
                              have hfz28_0 := blk_frozen BK101.out 0
                              have hfz28_1 := blk_frozen BK101.out 1
                              have hfz28_2 := blk_frozen BK101.out 2
                              have hfz28_3 := blk_frozen BK101.out 3
                              have hfz28_4 := blk_frozen BK101.out 4
                              have hfz28_5 := blk_frozen BK101.out 5
                              have hfz28_6 := blk_frozen BK101.out 6
                              have hfz28_7 := blk_frozen BK101.out 7
                              have p104 : 0 ≤ (x5_4 : Int) := of_decide_eq_true (by first | (with_reducible assumption) | assumption)
                              have q104 : x5_4 < (l0_4.length : Int) := of_decide_eq_true (by first | (with_reducible assumption) | assumption)
                              obtain ⟨ad104, e104, hx104_0⟩ := Kd.at_string HR0_4.out x5_4 p104 q104
                              cases e104
                              replace hx104_0 := (HB.out.cell (World.block_lt_of_cell? w _ hx104_0)).trans hx104_0
                              replace p104 := eq_true p104
                              replace q104 := eq_true q104
                              go_wp2
                              go_roundg k4
                              case measure => have := HJ1.out; have := HK2.out; have := HK3.out; have := HK4.out; omega
                              case rel => exact ⟨(wrap64 (x5_4 + 1)), (by first | rfl | (simp; done) | (simp [*]; done)), H', ⟨by have := HJ1.out; have := HK2.out; have := HK3.out; have := HK4.out; omega⟩, ⟨by (with_reducible repeat (first | refine blk_drewN ?_ _ | refine blk_drew ?_ | refine blk_alloc ?_ _)); exact BK101.out⟩, ⟨by repeat (first | (with_reducible first | exact HB.out | apply below_alloc | apply pw_below_drewN | apply below_drew1 | refine below_set ?_ GE101.out) | exact HB.out)⟩⟩
                          · rw [if_neg c25] at H
                            exact absurd H (by simp)
                        · rw [if_neg c24] at H
                          have c24b0 : decide (x5_4 < (l0_4.length : Int)) = false := decide_eq_false c24
                          clear c24
                          obtain rfl := Option.some.inj H
                          have hcz29_0 : wr.cell? ⟨gb101, 0, none⟩ = some (.int .i64 a0_0) := (blk_cell BK101.out 0).trans rfl
                          have hcz29_1 : wr.cell? ⟨gb101, 1, none⟩ = some (.string a0_1) := (blk_cell BK101.out 1).trans rfl
                          have hcz29_2 : wr.cell? ⟨gb101, 2, none⟩ = some (.slice A0_2 l0_2.length c0_2) := (blk_cell BK101.out 2).trans rfl
                          have hcz29_3 : wr.cell? ⟨gb101, 3, none⟩ = some (.slice A0_3 l0_3.length c0_3) := (blk_cell BK101.out 3).trans rfl
                          have hcz29_4 : wr.cell? ⟨gb101, 4, none⟩ = some (.slice A0_4 l0_4.length c0_4) := (blk_cell BK101.out 4).trans rfl
                          have hcz29_5 : wr.cell? ⟨gb101, 5, none⟩ = some (.int .i64 a0_5) := (blk_cell BK101.out 5).trans rfl
                          have hcz29_6 : wr.cell? ⟨gb101, 6, none⟩ = some (.string a0_6) := (blk_cell BK101.out 6).trans rfl
                          have hcz29_7 : wr.cell? ⟨gb101, 7, none⟩ = some (.string a0_7) := (blk_cell BK101.out 7).trans rfl
                          have hfz29_0 := blk_frozen BK101.out 0
                          have hfz29_1 := blk_frozen BK101.out 1
                          have hfz29_2 := blk_frozen BK101.out 2
                          have hfz29_3 := blk_frozen BK101.out 3
                          have hfz29_4 := blk_frozen BK101.out 4
                          have hfz29_5 := blk_frozen BK101.out 5
                          have hfz29_6 := blk_frozen BK101.out 6
                          have hfz29_7 := blk_frozen BK101.out 7
                          go_wp2
                          go_ret
                          exact ⟨by first | rfl | (simp [errW_none, errW_some] <;> rfl) | (simp [*, errW_none, errW_some] <;> rfl), by repeat (first | (with_reducible first | exact HB.out | apply below_alloc | apply pw_below_drewN | apply below_drew1 | refine below_set ?_ GE101.out) | exact HB.out)⟩

end Go.Proofs.YtgjlchcfdbmmlaaDoor.PObjectTakes
/- The rows' small ends; lives. -/
namespace Go.Proofs.YtgjlchcfdbmmlaaDoor.PObjectTakes
open Go.RowKit Go.Proofs.YtgjlchcfdbmmlaaDoor.Ord Go.Proofs.YtgjlchcfdbmmlaaDoor.Obj Go.Proofs.YtgjlchcfdbmmlaaDoorW.PrintWords Go.Proofs.YtgjlchcfdbmmlaaDoorW.PrintLast Go.Proofs.YtgjlchcfdbmmlaaDoorW.PrintMore
set_option linter.unusedVariables false
set_option linter.unusedSimpArgs false
attribute [local irreducible] OpGives

theorem small_l2 (a : Int) (b : ByteArray) (r : List S55) (k : List S60) (p : List ByteArray) (s : Int) (n t : ByteArray) (hp : p.length ≤ 9223372036854775807) : ∀ (d i : Nat), i + d = p.length → ∃ q, Ev (fun j => fastilaw07_small.l2 j (i : Int) a b r k p s n t) q := by
  intro d
  induction d with
  | zero =>
    intro i hi
    refine ⟨true, Ev.step (f := fun _ => some true) (fun j => ?_) (Ev.now _)⟩
    rw [fastilaw07_small.l2, if_neg (by omega)]
  | succ d ihd =>
    intro i hi
    have w2 : wrap64 ((i : Int) + 1) = ((i + 1 : Nat) : Int) := by unfold wrap64; omega
    by_cases h : ((rdOf ByteArray.empty p (i : Int)).size : Int) > 100
    · refine ⟨false, Ev.step (f := fun _ => some false) (fun j => ?_) (Ev.now _)⟩
      rw [fastilaw07_small.l2, if_pos (by omega), if_pos (by omega), if_pos h]
    · obtain ⟨q, hq⟩ := ihd (i + 1) (by omega)
      refine ⟨q, Ev.step (f := fun j => fastilaw07_small.l2 j ((i + 1 : Nat) : Int) a b r k p s n t) (fun j => ?_) hq⟩
      rw [fastilaw07_small.l2, if_pos (by omega), if_pos (by omega), if_neg h, w2]
theorem small_l1 (a : Int) (b : ByteArray) (r : List S55) (k : List S60) (p : List ByteArray) (s : Int) (n t : ByteArray) (hk : k.length ≤ 9223372036854775807) (hp : p.length ≤ 9223372036854775807) : ∀ (d i : Nat), i + d = k.length → ∃ q, Ev (fun j => fastilaw07_small.l1 j (i : Int) a b r k p s n t) q := by
  intro d
  induction d with
  | zero =>
    intro i hi
    obtain ⟨q, hq⟩ := small_l2 a b r k p s n t hp p.length 0 (by omega)
    refine ⟨q, Ev.step (f := fun j => fastilaw07_small.l2 j ((0 : Nat) : Int) a b r k p s n t) (fun j => ?_) hq⟩
    rw [fastilaw07_small.l1, if_neg (by omega)]
    rfl
  | succ d ihd =>
    intro i hi
    have w2 : wrap64 ((i : Int) + 1) = ((i + 1 : Nat) : Int) := by unfold wrap64; omega
    by_cases h : (((rd_T60 k (i : Int)).f1).size : Int) > 100
    · refine ⟨false, Ev.step (f := fun _ => some false) (fun j => ?_) (Ev.now _)⟩
      rw [fastilaw07_small.l1, if_pos (by omega), if_pos (by omega), if_pos h]
    · obtain ⟨q, hq⟩ := ihd (i + 1) (by omega)
      refine ⟨q, Ev.step (f := fun j => fastilaw07_small.l1 j ((i + 1 : Nat) : Int) a b r k p s n t) (fun j => ?_) hq⟩
      rw [fastilaw07_small.l1, if_pos (by omega), if_pos (by omega), if_neg h, w2]
theorem small_l0 (a : Int) (b : ByteArray) (r : List S55) (k : List S60) (p : List ByteArray) (s : Int) (n t : ByteArray) (hr : r.length ≤ 9223372036854775807) (hk : k.length ≤ 9223372036854775807) (hp : p.length ≤ 9223372036854775807) : ∀ (d i : Nat), i + d = r.length → ∃ q, Ev (fun j => fastilaw07_small.l0 j (i : Int) a b r k p s n t) q := by
  intro d
  induction d with
  | zero =>
    intro i hi
    obtain ⟨q, hq⟩ := small_l1 a b r k p s n t hk hp k.length 0 (by omega)
    refine ⟨q, Ev.step (f := fun j => fastilaw07_small.l1 j ((0 : Nat) : Int) a b r k p s n t) (fun j => ?_) hq⟩
    rw [fastilaw07_small.l0, if_neg (by omega)]
    rfl
  | succ d ihd =>
    intro i hi
    have w2 : wrap64 ((i : Int) + 1) = ((i + 1 : Nat) : Int) := by unfold wrap64; omega
    by_cases h : (((rd_T55 r (i : Int)).f2.f2).size : Int) > 200
    · refine ⟨false, Ev.step (f := fun _ => some false) (fun j => ?_) (Ev.now _)⟩
      rw [fastilaw07_small.l0, if_pos (by omega), if_pos (by omega), if_pos h]
    · obtain ⟨q, hq⟩ := ihd (i + 1) (by omega)
      refine ⟨q, Ev.step (f := fun j => fastilaw07_small.l0 j ((i + 1 : Nat) : Int) a b r k p s n t) (fun j => ?_) hq⟩
      rw [fastilaw07_small.l0, if_pos (by omega), if_pos (by omega), if_neg h, w2]
theorem small_j0 (x : Bool) (o : Ob) (hr : o.rows.length ≤ 9223372036854775807) (hk : o.kids.length ≤ 9223372036854775807) (hp : o.parents.length ≤ 9223372036854775807) : ∃ q, Ev (fun j => fastilaw07_small.j0 j x o.kind o.label o.rows o.kids o.parents o.stamp o.note o.root) q := by
  cases x with
  | true => exact ⟨false, Ev.step (f := fun _ => some false) (fun j => by rw [fastilaw07_small.j0, if_pos rfl]) (Ev.now _)⟩
  | false =>
    obtain ⟨q, hq⟩ := small_l0 o.kind o.label o.rows o.kids o.parents o.stamp o.note o.root hr hk hp o.rows.length 0 (by omega)
    exact ⟨q, Ev.step (f := fun j => fastilaw07_small.l0 j ((0 : Nat) : Int) o.kind o.label o.rows o.kids o.parents o.stamp o.note o.root) (fun j => by rw [fastilaw07_small.j0, if_neg (by decide)]; rfl) hq⟩
theorem small_any (o : Ob) (hr : o.rows.length ≤ 9223372036854775807) (hk : o.kids.length ≤ 9223372036854775807) (hp : o.parents.length ≤ 9223372036854775807) : ∃ k q, fastilaw07_small.f k o.kind o.label o.rows o.kids o.parents o.stamp o.note o.root = some q := by
  unfold fastilaw07_small.f
  split
  · obtain ⟨q, hq⟩ := small_j0 true o hr hk hp; obtain ⟨k, e⟩ := hq.rounds; exact ⟨k, q, e⟩
  · split
    · obtain ⟨q, hq⟩ := small_j0 true o hr hk hp; obtain ⟨k, e⟩ := hq.rounds; exact ⟨k, q, e⟩
    · split
      · obtain ⟨q, hq⟩ := small_j0 true o hr hk hp; obtain ⟨k, e⟩ := hq.rounds; exact ⟨k, q, e⟩
      · obtain ⟨q, hq⟩ := small_j0 _ o hr hk hp; obtain ⟨k, e⟩ := hq.rounds; exact ⟨k, q, e⟩
theorem small_calls (o : Ob) (Ar : Option Addr) (cr : Nat) (Ak : Option Addr) (ck : Nat) (Ap : Option Addr) (cp : Nat) (w : World) (h : ObAt w o Ar cr Ak ck Ap cp) :
    ∃ q, Calls Tryd.prog 6 #[.agg (obV o Ar cr Ak ck Ap cp)] w fun e w' => e = .returned (.bool q) ∧ Below w.heap.size w w' := by
  obtain ⟨k, q, hq⟩ := small_any o (by have := h.r.2.1; omega) (by have := h.k.2.1; omega) (by have := h.p.2.1; omega)
  exact ⟨q, fastilaw07_small.calls k o.kind o.label Ar cr o.rows Ak ck o.kids Ap cp o.parents o.stamp o.note o.root q w h.r h.lr h.k h.lk h.p h.lp hq⟩
/-- The document's example. -/
def nodeZ : Ob := ⟨1, ⟨#[]⟩, [], [], [], 0, ⟨#[]⟩, ⟨#[]⟩⟩
def exB : ByteArray := ⟨#[65, 4, 17, 1, 48, 64, 64]⟩
theorem nodeZ_ok : okOb nodeZ = true := by decide
theorem nodeZ_wf : wfOb nodeZ := ⟨⟨by decide, by decide⟩, fun x hx => (by cases hx), fun x hx => (by cases hx)⟩
theorem bes_0 : bes 0 = [] := bes_zero
theorem bes_1 : bes 1 = [1] := by rw [bes_pos (by decide), show 1 / 256 = 0 from rfl, bes_0]; rfl
theorem bes_4 : bes 4 = [4] := by rw [bes_pos (by decide), show 4 / 256 = 0 from rfl, bes_0]; rfl
theorem nodeZ_bytes : bytesOf nodeZ = exB := by
  have h : encS (cellOf nodeZ) = [65, 4, 17, 1, 48, 64, 64] := by
    show encS ⟨3, 0, ⟨#[]⟩, [⟨1, 1, ⟨#[]⟩, []⟩, ⟨2, 0, ⟨#[]⟩, []⟩, ⟨3, 0, ⟨#[]⟩, []⟩, ⟨3, 0, ⟨#[]⟩, []⟩]⟩ = _
    have e0 : encS ⟨3, 0, ⟨#[]⟩, []⟩ = [64] := by rw [encS_list, encL]; unfold headB; rw [show ([] : List S42).length = 0 from rfl, bes_0]; rfl
    have e1 : encS ⟨1, 1, ⟨#[]⟩, []⟩ = [17, 1] := by rw [encS_num, if_neg (by decide)]; unfold headB; rw [show (1 : Int).toNat = 1 from rfl, bes_1]; rfl
    have e2 : encS ⟨2, 0, ⟨#[]⟩, []⟩ = [48] := by rw [encS_text]; unfold headB; rw [show (ByteArray.mk #[]).size = 0 from rfl, bes_0]; rfl
    rw [encS_list, encL, encL, encL, encL, encL, e0, e1, e2]
    unfold headB
    rw [show ([⟨1, 1, ⟨#[]⟩, []⟩, ⟨2, 0, ⟨#[]⟩, []⟩, ⟨3, 0, ⟨#[]⟩, []⟩, ⟨3, 0, ⟨#[]⟩, []⟩] : List S42).length = 4 from rfl, bes_4]
    rfl
  unfold bytesOf
  rw [h]; rfl
theorem exB_take : takeO exB = (nodeZ, 0) := by rw [← nodeZ_bytes]; exact takeO_back nodeZ_ok nodeZ_wf
set_option maxHeartbeats 8000000 in
set_option maxRecDepth 100000 in
theorem lives_calls (w : World) (hT : Lib.Utf8Tabs 0 1 w) : Calls Tryd.prog 7 #[] w fun e w' => e = .returned (.bool true) ∧ Below w.heap.size w w' := by
  have hzat : ∀ W, ObAt W nodeZ none 0 none 0 none 0 := fun W => ⟨Kd.C_nil _ _, Nat.le_refl _, Kd.C_nil _ _, Nat.le_refl _, Kd.C_nil _ _, Nat.le_refl _⟩
  have HP := Lib.hid (oput_calls nodeZ none 0 none 0 none 0 w (hzat w) nodeZ_wf hT)
  have hputs : putS nodeZ = exB := by unfold putS; rw [if_pos nodeZ_ok, nodeZ_bytes]
  have herr : errO (okOb nodeZ) = 0 := by rw [nodeZ_ok]; rfl
  rw [hputs, herr] at HP
  have hids : (idS nodeZ).size = 32 := by unfold idS; rw [if_pos nodeZ_ok, byL_size]; exact Sha.sum_len _
  have HTK := Lib.hid (fun W (h : Below w.heap.size w W) => otake_calls exB W (by decide) (fun h0 => take_parts (by decide) h0) (Utf8Tabs_below hT h))
  rw [exB_take] at HTK
  have HID := Lib.hid (fun W (h : Below w.heap.size w W) Ar cr Ak ck Ap cp (ho : ObAt W nodeZ Ar cr Ak ck Ap cp) => oid_calls nodeZ Ar cr Ak ck Ap cp W ho nodeZ_wf (Utf8Tabs_below hT h))
  rw [herr] at HID
  have HSM := Lib.hid (fun W Ar cr Ak ck Ap cp (ho : ObAt W nodeZ Ar cr Ak ck Ap cp) => same07_calls nodeZ Ar cr Ak ck Ap cp none 0 none 0 none 0 W ho (hzat W))
  generalize idS nodeZ = idv at hids HID
  have h32 : ((idv.size : Int) == 32) = true := by rw [hids]; rfl
  clear hputs herr hzat hT hids
  unfold obV nodeZ at HP HID HSM
  unfold exB at HP HTK
  unfold TakeOPost at HTK
  have hob := fun W (h : Below w.heap.size w W) => (HTK.out W h)
  unfold obV nodeZ at hob
  simp only at hob HP HID HSM
  have HTK2 := Lib.hid hob
  clear hob HTK
  go_enter Tryd.func7, Tryd.ntmps7
  go_wp2_with fail
  refine HP.out.mono ?_
  rintro e W1 ⟨rfl, hb1⟩
  have HB1 := Lib.hid hb1
  clear hb1 HP
  go_wp2_with fail
  refine (HTK2.out W1 HB1.out).mono ?_
  rintro e W2 ⟨Ar, cr, Ak, ck, Ap, cp, rfl, hO, hb2⟩
  have hb2w := HB1.out.trans (hb2.mono HB1.out.size)
  obtain ⟨W3, hW3⟩ : ∃ W3, W3 = W2.alloc (.cells #[.int .i64 1, .string (⟨#[]⟩ : ByteArray), .slice Ar 0 cr, .slice Ak 0 ck, .slice Ap 0 cp, .int .i64 0, .string (⟨#[]⟩ : ByteArray), .string (⟨#[]⟩ : ByteArray)] 27) := ⟨_, rfl⟩
  have hn3 : Below W2.heap.size W2 W3 := by rw [hW3]; exact (Below.refl _ _).alloc (Nat.le_refl _) _
  have hg3 : W3.heap[W2.heap.size]? = some (.cells #[.int .i64 1, .string (⟨#[]⟩ : ByteArray), .slice Ar 0 cr, .slice Ak 0 ck, .slice Ap 0 cp, .int .i64 0, .string (⟨#[]⟩ : ByteArray), .string (⟨#[]⟩ : ByteArray)] 27 (0, 0)) := by rw [hW3]; exact alloc_lastV _ _
  obtain ⟨⟨y0, y1, y2, y3⟩, y4, y5, y6, y7⟩ := box8 hg3
  have HB3 := Lib.hid (hb2w.trans (hn3.mono hb2w.size))
  have HO3 := Lib.hid (hO.at_.below hn3)
  have HG3 := Lib.hid hg3
  rw [hW3] at y0 y1 y2 y3 y4 y5 y6 y7
  have HW3 := Lib.hid hW3
  clear hb2 hb2w hn3 hg3 hO hW3
  go_wp2_with fail
  rw [← HW3.out]
  clear y0 y1 y2 y3 y4 y5 y6 y7
  refine (HID.out W3 HB3.out Ar cr Ak ck Ap cp HO3.out).mono ?_
  rintro e W4 ⟨rfl, hb4⟩
  have hg4 := (hb4.block _ (Array.getElem?_eq_some_iff.1 HG3.out).1).trans HG3.out
  obtain ⟨⟨y0, y1, y2, y3⟩, y4, y5, y6, y7⟩ := box8 hg4
  have HB4 := Lib.hid (HB3.out.trans (hb4.mono HB3.out.size))
  have HO4 := Lib.hid (HO3.out.below hb4)
  clear hb4 hg4
  go_wp2_with fail
  refine (HSM.out W4 Ar cr Ak ck Ap cp HO4.out).mono ?_
  rintro e W5 ⟨rfl, hb5⟩
  have hfin := HB4.out.trans (hb5.mono HB4.out.size)
  go_wp2_with fail
  go_ret
  exact ⟨rfl, hfin⟩
end Go.Proofs.YtgjlchcfdbmmlaaDoor.PObjectTakes
