/- Plain laws of cells: how great a small cell is; which are right. -/
import Derived.Test.YtjelpapcboiimaaUQ
namespace Go.Proofs.Ytjelpapcboiimaa.PCellPuts
open Go.RowKit Go.Proofs.YtjelpapcboiimaaW.PrintWords Go.Proofs.YtjelpapcboiimaaW.PrintLast Go.Proofs.YtjelpapcboiimaaW.PrintMore
set_option linter.unusedVariables false
set_option linter.unusedSimpArgs false

mutual
/-- What 'few' counts. -/
def parts : S25 → Nat
  | ⟨_, _, s, l⟩ => 1 + s.size / 100 + partsL l
def partsL : List S25 → Nat
  | [] => 0
  | x :: xs => parts x + partsL xs
end
mutual
def deepS : S25 → Nat
  | ⟨_, _, _, l⟩ => deepL l + 1
def deepL : List S25 → Nat
  | [] => 0
  | x :: xs => max (deepS x) (deepL xs)
end
theorem parts_eq (x : S25) : parts x = 1 + x.f2.size / 100 + partsL x.f3 := by cases x; rw [parts]
theorem deepS_eq (x : S25) : deepS x = deepL x.f3 + 1 := by cases x; rw [deepS]
def FewP (x : S25) : Prop := wfW x → ∀ left deep : Int, 0 ≤ left → left ≤ 5000 → 0 ≤ deep → deep ≤ 100 →
  ∃ r : Int, Ev (fun k => fastilaw04_few.f k x.f0 x.f1 x.f2 x.f3 left deep) r ∧ 0 ≤ r ∧ r ≤ left ∧ (0 < r → (parts x : Int) + r = left ∧ (deepS x : Int) ≤ deep)
theorem few_loop {l : List S25} (ih : ∀ y ∈ l, FewP y) (hw : wfWL l) (hl : l.length ≤ 9223372036854775807) (deep : Int) (h1 : 1 ≤ deep) (h2 : deep ≤ 100) (a b : Int) (s : ByteArray) :
    ∀ (d i : Nat), i + d = l.length → ∀ left : Int, 0 ≤ left → left ≤ 5000 →
      ∃ r : Int, Ev (fun k => fastilaw04_few.l0 k left deep (i : Int) a b s l) r ∧ 0 ≤ r ∧ r ≤ left ∧ (0 < r → (partsL (l.drop i) : Int) + r = left ∧ (deepL (l.drop i) : Int) + 1 ≤ deep) := by
  intro d
  induction d with
  | zero =>
    intro i hi left hl0 hl1
    refine ⟨left, Ev.step (f := fun _ => some left) (fun k => ?_) (Ev.now _), hl0, Int.le_refl _, fun h => ?_⟩
    · rw [fastilaw04_few.l0, if_neg (by omega)]
    · rw [List.drop_eq_nil_of_le (by omega)]; rw [partsL, deepL]; omega
  | succ d ihd =>
    intro i hi left hl0 hl1
    have hil : i < l.length := by omega
    rcases Int.lt_or_le 0 left with hp | hp
    · obtain ⟨r1, he1, hr0, hr1, hr2⟩ := ih l[i] (List.getElem_mem hil) (wfWL_mem hw (List.getElem_mem hil)) left (deep - 1) hl0 hl1 (by omega) (by omega)
      obtain ⟨r, he, hq0, hq1, hq2⟩ := ihd (i + 1) (by omega) r1 hr0 (by omega)
      have w1 : wrap64 (deep - 1) = deep - 1 := by unfold wrap64; omega
      have w2 : wrap64 ((i : Int) + 1) = ((i + 1 : Nat) : Int) := by unfold wrap64; omega
      refine ⟨r, Ev.step (f := fun k => (fastilaw04_few.f k l[i].f0 l[i].f1 l[i].f2 l[i].f3 left (deep - 1)).bind fun t => fastilaw04_few.l0 k t deep ((i + 1 : Nat) : Int) a b s l) (fun k => ?_) (Ev.bind (f := fun k t => fastilaw04_few.l0 k t deep ((i + 1 : Nat) : Int) a b s l) he1 he), hq0, by omega, fun h => ?_⟩
      · rw [fastilaw04_few.l0, if_pos (by omega), if_pos hp, if_pos (by omega), rd_at hil, w1, w2]
      · obtain ⟨e1, e2⟩ := hq2 h
        obtain ⟨e3, e4⟩ := hr2 (by omega)
        rw [List.drop_eq_getElem_cons hil, partsL, deepL]
        omega
    · refine ⟨left, Ev.step (f := fun _ => some left) (fun k => ?_) (Ev.now _), hl0, Int.le_refl _, fun h => by omega⟩
      rw [fastilaw04_few.l0, if_pos (by omega), if_neg (by omega)]
theorem few_any (x : S25) : FewP x := by
  refine S25.ind (P := FewP) (fun x ih => ?_) x
  intro hx left deep hl0 hl1 hd0 hd1
  obtain ⟨hn0, hn1, hs, hl, hw⟩ := wfW_parts hx
  have w1 : wrap64 (left - 1) = left - 1 := by unfold wrap64; omega
  have w2 : wrap64 ((x.f2.size : Int) / 100) = (x.f2.size : Int) / 100 := by unfold wrap64; omega
  have w3 : wrap64 (left - 1 - (x.f2.size : Int) / 100) = left - 1 - (x.f2.size : Int) / 100 := by unfold wrap64; omega
  by_cases hd : deep < 1
  · refine ⟨0, Ev.step (f := fun k => fastilaw04_few.j0 k (left - 1 - (x.f2.size : Int) / 100) deep true x.f0 x.f1 x.f2 x.f3) (fun k => ?_) (Ev.step (f := fun _ => some 0) (fun k => ?_) (Ev.now _)), Int.le_refl _, hl0, fun h => by omega⟩
    · rw [fastilaw04_few.f, if_pos hd, w1, w2, w3]
    · rw [fastilaw04_few.j0, if_pos rfl]
  · by_cases hz : left - 1 - (x.f2.size : Int) / 100 < 1
    · refine ⟨0, Ev.step (f := fun k => fastilaw04_few.j0 k (left - 1 - (x.f2.size : Int) / 100) deep true x.f0 x.f1 x.f2 x.f3) (fun k => ?_) (Ev.step (f := fun _ => some 0) (fun k => ?_) (Ev.now _)), Int.le_refl _, hl0, fun h => by omega⟩
      · rw [fastilaw04_few.f, if_neg hd, w1, w2, w3, decide_eq_true hz]
      · rw [fastilaw04_few.j0, if_pos rfl]
    · obtain ⟨r, he, hr0, hr1, hr2⟩ := few_loop ih hw hl deep (by omega) hd1 x.f0 x.f1 x.f2 x.f3.length 0 (by omega) (left - 1 - (x.f2.size : Int) / 100) (by omega) (by omega)
      refine ⟨r, Ev.step (f := fun k => fastilaw04_few.j0 k (left - 1 - (x.f2.size : Int) / 100) deep false x.f0 x.f1 x.f2 x.f3) (fun k => ?_) (Ev.step (f := fun k => fastilaw04_few.l0 k (left - 1 - (x.f2.size : Int) / 100) deep ((0 : Nat) : Int) x.f0 x.f1 x.f2 x.f3) (fun k => ?_) he), hr0, by omega, fun h => ?_⟩
      · rw [fastilaw04_few.f, if_neg hd, w1, w2, w3, decide_eq_false hz]
      · rw [fastilaw04_few.j0, if_neg (by decide)]; rfl
      · obtain ⟨e1, e2⟩ := hr2 h
        rw [List.drop_zero] at e1 e2
        rw [parts_eq, deepS_eq]
        omega
/-- 'small' answers; where it says yes the cell is small. -/
theorem small_any (x : S25) (hx : wfW x) : ∃ b, (∃ k, fastilaw04_small.f k x.f0 x.f1 x.f2 x.f3 = some b) ∧ (b = true → parts x < 5000 ∧ deepS x ≤ 40) := by
  obtain ⟨r, he, hr0, hr1, hr2⟩ := few_any x hx 5000 40 (by decide) (by decide) (by decide) (by decide)
  refine ⟨decide (r > 0), ?_, fun h => ?_⟩
  · obtain ⟨k, hk⟩ := he.rounds
    exact ⟨k, by unfold fastilaw04_small.f; rw [hk]; rfl⟩
  · have h0 : r > 0 := of_decide_eq_true h
    obtain ⟨e1, e2⟩ := hr2 h0
    omega
theorem partsL_mem {l : List S25} {y : S25} (h : y ∈ l) : parts y ≤ partsL l := by
  induction l with
  | nil => simp at h
  | cons x xs ih =>
    rw [partsL]
    rcases List.mem_cons.1 h with rfl | h
    · omega
    · have := ih h; omega
theorem partsL_len (l : List S25) : l.length ≤ partsL l := by
  induction l with
  | nil => simp
  | cons x xs ih => rw [partsL, List.length_cons, parts_eq]; omega
/-- A small cell fits. -/
theorem wfS_small (x : S25) : wfW x → parts x ≤ 1000000 → wfS x := by
  refine S25.ind (P := fun x => wfW x → parts x ≤ 1000000 → wfS x) (fun x ih => ?_) x
  intro h hp
  obtain ⟨hn0, hn1, hs, hl, hw⟩ := wfW_parts h
  rw [parts_eq] at hp
  have := partsL_len x.f3
  obtain ⟨k, n, s, l⟩ := x
  simp only at *
  rw [wfS]
  exact ⟨hn0, hn1, by omega, by omega, wfL_of (fun y hy => ih y hy (wfWL_mem hw hy) (by have := partsL_mem hy; omega))⟩
/-- A cell of few parts has few bytes. -/
def EncLe (x : S25) : Prop := wfS x → (encS x).length ≤ 109 * parts x
theorem encL_le {l : List S25} (ih : ∀ y ∈ l, EncLe y) (hw : wfL l) : (encL l).length ≤ 109 * partsL l ∧ l.length ≤ partsL l := by
  induction l with
  | nil => rw [encL, partsL]; simp
  | cons x xs ihx =>
    rw [wfL] at hw
    obtain ⟨e1, e2⟩ := ihx (fun y hy => ih y (List.mem_cons_of_mem _ hy)) hw.2
    have e3 := ih x (List.mem_cons_self) hw.1
    have e4 : 1 ≤ parts x := by rw [parts_eq]; omega
    rw [encL, partsL, List.length_append, List.length_cons]
    omega
theorem enc_le (x : S25) : EncLe x := by
  refine S25.ind (P := EncLe) (fun x ih => ?_) x
  intro hx
  obtain ⟨hn0, hn1, hs, hl, hw⟩ := wfS_parts hx
  obtain ⟨e1, e2⟩ := encL_le ih hw
  rw [parts_eq]
  obtain ⟨k, n, s, l⟩ := x
  simp only at *
  rw [encS]
  have hb : ∀ k m, m < 18446744073709551616 → (headB k m).length ≤ 9 := headB_len
  split
  · split
    · have := hb 2 (-(n + 1)).toNat (by omega); omega
    · have := hb 1 n.toNat (by omega); omega
  · split
    · have := hb 3 s.size (by omega)
      rw [List.length_append, ← Lib.size_eq]; omega
    · have := hb 4 l.length (by omega)
      rw [List.length_append]; omega
theorem check_loop {l : List S25} (d : Nat) (hd : d ≤ 100) (hl : l.length ≤ 9223372036854775807) (ih : ∀ y ∈ l, wfW y → Ev (fun k => cell_check.f k y.f0 y.f1 y.f2 y.f3 (d : Int)) (okS d y)) (hw : wfWL l) (a b : Int) (s : ByteArray) :
    ∀ (e i : Nat), i + e = l.length → Ev (fun k => cell_check.l0 k ((d + 1 : Nat) : Int) l (l.length : Int) (i : Int) a b s l) (decide (b = 0) && (decide (s.size = 0) && (decide (l.length ≤ 4095) && (l.drop i).all (okS d)))) := by
  intro e
  induction e with
  | zero =>
    intro i hi
    refine Ev.step (f := fun _ => some _) (fun k => ?_) (Ev.now _)
    rw [cell_check.l0, if_neg (by omega), List.drop_eq_nil_of_le (by omega)]
    by_cases hb : b = 0
    · rw [if_pos hb]
      by_cases hs : s.size = 0
      · rw [if_pos ((toList_nil_iff s).2 hs)]
        simp [hb, hs]
        omega
      · rw [if_neg (fun h => hs ((toList_nil_iff s).1 h))]
        simp [hs]
    · rw [if_neg hb]; simp [hb]
  | succ e ihe =>
    intro i hi
    have hil : i < l.length := by omega
    have w1 : wrap64 (((d + 1 : Nat) : Int) - 1) = (d : Int) := by unfold wrap64; omega
    have w2 : wrap64 ((i : Int) + 1) = ((i + 1 : Nat) : Int) := by unfold wrap64; omega
    have h1 := ih l[i] (List.getElem_mem hil) (wfWL_mem hw (List.getElem_mem hil))
    refine Ev.step (f := fun k => (cell_check.f k l[i].f0 l[i].f1 l[i].f2 l[i].f3 (d : Int)).bind fun t => if t = true then cell_check.l0 k ((d + 1 : Nat) : Int) l (l.length : Int) ((i + 1 : Nat) : Int) a b s l else some false) (fun k => ?_) (Ev.bind (f := fun k t => if t = true then cell_check.l0 k ((d + 1 : Nat) : Int) l (l.length : Int) ((i + 1 : Nat) : Int) a b s l else some false) h1 ?_)
    · rw [cell_check.l0, if_pos (by omega), if_pos (by omega), if_pos (by omega), rd_at hil, w1, w2]
    · rw [List.drop_eq_getElem_cons hil, List.all_cons]
      cases hk : okS d l[i] with
      | true =>
        simp only [if_true, Bool.true_and]
        exact ihe (i + 1) (by omega)
      | false => simpa using Ev.now false
theorem check_any : ∀ (d : Nat), d ≤ 100 → ∀ x : S25, wfW x → Ev (fun k => cell_check.f k x.f0 x.f1 x.f2 x.f3 (d : Int)) (okS d x)
  | 0, _, x, _ => Ev.step (f := fun _ => some false) (fun k => by rw [cell_check.f, if_pos (by decide)]) (Ev.now _)
  | d + 1, hd, ⟨k, n, s, l⟩, hx => by
    obtain ⟨hn0, hn1, hs, hl, hw⟩ := wfW_parts hx
    simp only at *
    rw [okS]
    by_cases h1 : k = 1
    · rw [if_pos h1]
      refine Ev.step (f := fun _ => some _) (fun k => ?_) (Ev.now _)
      rw [cell_check.f, if_neg (by omega), if_pos h1]
      by_cases hz : s.size = 0
      · rw [if_pos ((toList_nil_iff s).2 hz)]
        simp [hz]
        exact Bool.eq_iff_iff.2 (by simp)
      · rw [if_neg (fun h => hz ((toList_nil_iff s).1 h))]; simp [hz]
    · rw [if_neg h1]
      by_cases h2 : k = 2
      · rw [if_pos h2]
        refine Ev.step (f := fun _ => some _) (fun k => ?_) (Ev.now _)
        rw [cell_check.f, if_neg (by omega), if_neg h1, if_pos h2]
        by_cases hn : n = 0
        · rw [if_pos hn]
          by_cases hz : l.length = 0
          · rw [if_pos (by omega)]
            simp [hn, hz]
            omega
          · rw [if_neg (by omega)]; simp [hz]
        · rw [if_neg hn]; simp [hn]
      · rw [if_neg h2]
        by_cases h3 : k = 3
        · rw [if_pos h3]
          have h := check_loop d (by omega) hl (fun y hy hwy => check_any d (by omega) y hwy) hw k n s l.length 0 (by omega)
          rw [List.drop_zero] at h
          refine Ev.step (f := fun k' => cell_check.l0 k' ((d + 1 : Nat) : Int) l (l.length : Int) ((0 : Nat) : Int) k n s l) (fun k' => ?_) h
          rw [cell_check.f, if_neg (by omega), if_neg h1, if_neg h2, if_pos h3]; rfl
        · rw [if_neg h3]
          refine Ev.step (f := fun _ => some _) (fun k => ?_) (Ev.now _)
          rw [cell_check.f, if_neg (by omega), if_neg h1, if_neg h2, if_neg h3]
/-- What Check answers. -/
def checkR (x : S25) : Int := if okS 16 x then 0 else 2
theorem Check_any (x : S25) (hx : wfW x) : ∃ k, cell_Check.f k x.f0 x.f1 x.f2 x.f3 = some (checkR x) := by
  obtain ⟨k, hk⟩ := (check_any 16 (by decide) x hx).rounds
  refine ⟨k, ?_⟩
  unfold cell_Check.f
  have hk' : cell_check.f k x.f0 x.f1 x.f2 x.f3 16 = some (okS 16 x) := hk
  rw [hk', Option.bind_some]
  unfold checkR
  split <;> rfl
end Go.Proofs.Ytjelpapcboiimaa.PCellPuts
