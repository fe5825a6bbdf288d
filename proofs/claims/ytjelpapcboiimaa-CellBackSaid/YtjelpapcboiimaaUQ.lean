/- A cell is the same as itself. -/
import Derived.Test.YtjelpapcboiimaaUG
import Derived.Test.YtjelpapcboiimaaPCellPutsx2
namespace Go.Proofs.Ytjelpapcboiimaa.PCellPuts
open Go.RowKit Go.Proofs.YtjelpapcboiimaaW.PrintWords Go.Proofs.YtjelpapcboiimaaW.PrintLast Go.Proofs.YtjelpapcboiimaaW.PrintMore
set_option linter.unusedVariables false
set_option linter.unusedSimpArgs false

theorem wf_int {n : Int} (h : (Lit.int .i64 n).wf = true) : -9223372036854775808 ≤ n ∧ n ≤ 9223372036854775807 := by
  simp only [Lit.wf, Bool.and_eq_true, decide_eq_true_eq] at h
  exact ⟨Int.le_trans (by decide) h.1, Int.le_trans h.2 (by decide)⟩
theorem S25.ind {P : S25 → Prop} (h : ∀ x : S25, (∀ y ∈ x.f3, P y) → P x) (x : S25) : P x := by
  have : ∀ m, ∀ x : S25, SizeOf.sizeOf x < m → P x := by
    intro m
    induction m with
    | zero => intro x hx; omega
    | succ m ih =>
      intro x hx
      refine h x (fun y hy => ih y ?_)
      obtain ⟨k, n, s, l⟩ := x
      have := List.sizeOf_lt_of_mem hy
      simp at hx this ⊢; omega
  exact this _ x (Nat.lt_succ_self _)
theorem wfS_parts {x : S25} (h : wfS x) : -9223372036854775808 ≤ x.f1 ∧ x.f1 ≤ 9223372036854775807 ∧ x.f2.size ≤ 140737488355328 ∧ x.f3.length ≤ 140737488355328 ∧ wfL x.f3 := by
  obtain ⟨k, n, s, l⟩ := x
  rw [wfS] at h; exact h
theorem wfL_mem {l : List S25} (h : wfL l) {y : S25} (hy : y ∈ l) : wfS y := by
  obtain ⟨i, hi⟩ := List.getElem?_of_mem hy
  exact wfL_at h hi
theorem rd_at {l : List S25} {i : Nat} (h : i < l.length) : rd_T25 l (i : Int) = l[i] := by
  unfold rd_T25; rw [Int.toNat_natCast, List.getD_eq_getElem?_getD, List.getElem?_eq_getElem h]; rfl
theorem toList_nil_iff (s : ByteArray) : s.toList = [] ↔ s.size = 0 := by
  rw [Lib.toList_data, Lib.size_eq]; exact List.length_eq_zero_iff.symm
mutual
/-- Its numbers are of their kind, however great its texts and lists. -/
def wfW : S25 → Prop
  | ⟨k, n, s, l⟩ => -9223372036854775808 ≤ n ∧ n ≤ 9223372036854775807 ∧ s.size ≤ 9223372036854775807 ∧ l.length ≤ 9223372036854775807 ∧ wfWL l
def wfWL : List S25 → Prop
  | [] => True
  | x :: xs => wfW x ∧ wfWL xs
end
theorem wfW_parts {x : S25} (h : wfW x) : -9223372036854775808 ≤ x.f1 ∧ x.f1 ≤ 9223372036854775807 ∧ x.f2.size ≤ 9223372036854775807 ∧ x.f3.length ≤ 9223372036854775807 ∧ wfWL x.f3 := by
  obtain ⟨k, n, s, l⟩ := x
  rw [wfW] at h; exact h
theorem wfWL_mem : ∀ {l : List S25}, wfWL l → ∀ {y : S25}, y ∈ l → wfW y
  | [], _, y, h => by simp at h
  | x :: xs, hw, y, h => by
    rw [wfWL] at hw
    rcases List.mem_cons.1 h with rfl | h
    · exact hw.1
    · exact wfWL_mem hw.2 h
theorem wfWL_of : ∀ {l : List S25}, (∀ y ∈ l, wfW y) → wfWL l
  | [], _ => by rw [wfWL]; trivial
  | x :: xs, h => by rw [wfWL]; exact ⟨h x List.mem_cons_self, wfWL_of (fun y hy => h y (List.mem_cons_of_mem _ hy))⟩
theorem wfL_of : ∀ {l : List S25}, (∀ y ∈ l, wfS y) → wfL l
  | [], _ => by rw [wfL]; trivial
  | x :: xs, h => by rw [wfL]; exact ⟨h x List.mem_cons_self, wfL_of (fun y hy => h y (List.mem_cons_of_mem _ hy))⟩
theorem wfW_of (x : S25) : wfS x → wfW x := by
  refine S25.ind (P := fun x => wfS x → wfW x) (fun x ih => ?_) x
  intro h
  obtain ⟨hn0, hn1, hs, hl, hw⟩ := wfS_parts h
  obtain ⟨k, n, s, l⟩ := x
  rw [wfW]
  exact ⟨hn0, hn1, by simp only at hs; omega, by simp only at hl; omega, wfWL_of (fun y hy => ih y hy (wfL_mem hw hy))⟩
/-- Is a cell right, so deep at most? -/
def okS : Nat → S25 → Bool
  | 0, _ => false
  | d + 1, ⟨k, n, s, l⟩ => if k = 1 then decide (s.size = 0) && decide (l.length = 0) else if k = 2 then decide (n = 0) && (decide (l.length = 0) && decide (s.size ≤ 65535)) else if k = 3 then decide (n = 0) && (decide (s.size = 0) && (decide (l.length ≤ 4095) && l.all (okS d))) else false
def SameP (x : S25) : Prop := wfW x → Ev (fun k => fastiref04_Same.f k x.f0 x.f1 x.f2 x.f3 x.f0 x.f1 x.f2 x.f3) true
theorem same_loop {l : List S25} (ih : ∀ y ∈ l, SameP y) (hw : wfWL l) (hl : l.length ≤ 9223372036854775807) (a b : Int) (s : ByteArray) :
    ∀ (d i : Nat), i + d = l.length → Ev (fun k => fastiref04_Same.l0 k (i : Int) a b s l a b s l) true := by
  intro d
  induction d with
  | zero =>
    intro i hi
    refine Ev.step (f := fun _ => some _) (fun k => ?_) (Ev.now _)
    rw [fastiref04_Same.l0, if_neg (by omega)]
  | succ d ihd =>
    intro i hi
    have hil : i < l.length := by omega
    have w2 : wrap64 ((i : Int) + 1) = ((i + 1 : Nat) : Int) := by unfold wrap64; omega
    have h1 := ih l[i] (List.getElem_mem hil) (wfWL_mem hw (List.getElem_mem hil))
    refine Ev.step (f := fun k => (fastiref04_Same.f k l[i].f0 l[i].f1 l[i].f2 l[i].f3 l[i].f0 l[i].f1 l[i].f2 l[i].f3).bind fun t => if t = true then fastiref04_Same.l0 k ((i + 1 : Nat) : Int) a b s l a b s l else some false) (fun k => ?_)
      (Ev.bind (f := fun k t => if t = true then fastiref04_Same.l0 k ((i + 1 : Nat) : Int) a b s l a b s l else some false) h1 (Ev.congr (fun k => if_pos rfl) (ihd (i + 1) (by omega))))
    rw [fastiref04_Same.l0, if_pos (by omega), if_pos (by omega), if_pos (by omega), rd_at hil, w2]
theorem same_any (x : S25) : SameP x := by
  refine S25.ind (P := SameP) (fun x ih => ?_) x
  intro hx
  obtain ⟨hn0, hn1, hs, hl, hw⟩ := wfW_parts hx
  refine Ev.step (f := fun k => fastiref04_Same.j0 k false x.f0 x.f1 x.f2 x.f3 x.f0 x.f1 x.f2 x.f3) (fun k => ?_) (Ev.step (f := fun k => fastiref04_Same.l0 k ((0 : Nat) : Int) x.f0 x.f1 x.f2 x.f3 x.f0 x.f1 x.f2 x.f3) (fun k => ?_) (same_loop ih hw hl x.f0 x.f1 x.f2 x.f3.length 0 (by omega)))
  · rw [fastiref04_Same.f, if_pos rfl, if_pos rfl, if_pos rfl]; simp
  · rw [fastiref04_Same.j0, if_neg (by decide)]; rfl
theorem Same_self (x : S25) (hx : wfW x) : ∃ k, fastiref04_Same.f k x.f0 x.f1 x.f2 x.f3 x.f0 x.f1 x.f2 x.f3 = some true := (same_any x hx).rounds
end Go.Proofs.Ytjelpapcboiimaa.PCellPuts
