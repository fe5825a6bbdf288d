/- Texts of one proof, joined: Gw, Gx, Gy, Gz, Ha. -/
import Derived.Test.YteljihpheffjnaaDoorZGb
import Derived.Test.YteljihpheffjnaaDoorZGc
set_option linter.unusedSimpArgs false
set_option linter.unusedVariables false
/- What a scan tells, in plain terms: the records that were there and those that were put behind them. -/
namespace Go.Proofs.YteljihpheffjnaaDoor.Tape
open Go.RowKit Go.Proofs.YteljihpheffjnaaDoor.Ord Go.Proofs.YteljihpheffjnaaDoorW.PrintWords Go.Proofs.YteljihpheffjnaaDoor.Base Go.Proofs.YteljihpheffjnaaDoor.Drum
set_option linter.unusedVariables false
set_option linter.unusedSimpArgs false

/-- From one place to another by whole records. -/
inductive Steps (D : DS) : List (List UInt8) → Nat → Nat → List (List UInt8) → Nat → Nat → Prop
  | refl (o : List (List UInt8)) (a q : Nat) : Steps D o a q o a q
  | step {o : List (List UInt8)} {a q : Nat} {x : List (List UInt8)} {l : Nat} {o' : List (List UInt8)} {a' q' : Nat} (hr : DS.rec D a (o.length + 1) = some (x, l)) (hl : ¬ l < q) (h : Steps D (o ++ [x.flatten]) (a + x.length) l o' a' q') : Steps D o a q o' a' q'
/-- No record stands there. -/
def Stop (D : DS) (a q n : Nat) : Prop := ∀ x l, DS.rec D a n = some (x, l) → l < q
theorem Steps.trans {D : DS} {o o1 o2 : List (List UInt8)} {a a1 a2 q q1 q2 : Nat} (h : Steps D o a q o1 a1 q1) (k : Steps D o1 a1 q1 o2 a2 q2) : Steps D o a q o2 a2 q2 := by
  induction h with
  | refl => exact k
  | step hr hl _ ih => exact .step hr hl (ih k)
theorem rec_in {D : DS} {a n l : Nat} {o : List (List UInt8)} (h : DS.rec D a n = some (o, l)) (ha : a ≤ D.sure.length) : a + o.length ≤ D.sure.length ∧ 0 < o.length := by
  have := rec_len h; omega
theorem Steps.le {D : DS} {o o1 : List (List UInt8)} {a a1 q q1 : Nat} (h : Steps D o a q o1 a1 q1) (ha : a ≤ D.sure.length) : a ≤ a1 ∧ a1 ≤ D.sure.length ∧ o.length ≤ o1.length ∧ o1.length - o.length ≤ a1 - a := by
  induction h with
  | refl => omega
  | step hr hl _ ih =>
    have := rec_in hr ha
    have := ih (by omega)
    rw [List.length_append, List.length_singleton] at this
    omega
theorem Steps.was {D : DS} {o o1 : List (List UInt8)} {a a1 q q1 : Nat} (h : Steps D o a q o1 a1 q1) : q ≤ q1 := by
  induction h with
  | refl => omega
  | step hr hl _ ih => omega
theorem scan_steps {D : DS} {o o' : List (List UInt8)} {a a' q q' : Nat} (h : Steps D o a q o' a' q') (hs : Stop D a' q' (o'.length + 1)) (ha : a ≤ D.sure.length) : ∀ k, D.sure.length ≤ a + k → DS.scanN D k a q o = (o', a') := by
  induction h with
  | refl o a q =>
    intro k _
    cases hx : DS.rec D a (o.length + 1) with
    | none => exact scanN_none hx k
    | some y =>
      obtain ⟨x, l⟩ := y
      exact scanN_lt hx (hs x l hx) k
  | step hr hl _ ih =>
    intro k hk
    have := rec_in hr ha
    obtain ⟨j, rfl⟩ : ∃ j, k = j + 1 := ⟨k - 1, by omega⟩
    rw [scanN_more hr hl j]
    exact ih hs (by omega) j (by omega)
theorem rec_end {D : DS} {a n : Nat} (h : D.sure.length ≤ a) : DS.rec D a n = none := by
  unfold DS.rec; rw [Nat.sub_eq_zero_of_le h]; rfl
theorem steps_scan {D : DS} : ∀ (k : Nat) (o : List (List UInt8)) (a q : Nat), a ≤ D.sure.length → D.sure.length ≤ a + k → ∃ q', Steps D o a q (DS.scanN D k a q o).1 (DS.scanN D k a q o).2 q' ∧ Stop D (DS.scanN D k a q o).2 q' ((DS.scanN D k a q o).1.length + 1)
  | 0, o, a, q, ha, hk => ⟨q, .refl _ _ _, fun x l hx => by rw [show (DS.scanN D 0 a q o).2 = a from rfl, rec_end (D := D) (by omega)] at hx; cases hx⟩
  | k + 1, o, a, q, ha, hk => by
    cases hx : DS.rec D a (o.length + 1) with
    | none => rw [scanN_none hx]; exact ⟨q, .refl _ _ _, fun x l h => by rw [hx] at h; cases h⟩
    | some y =>
      obtain ⟨x, l⟩ := y
      by_cases hl : l < q
      · rw [scanN_lt hx hl]; exact ⟨q, .refl _ _ _, fun x' l' h => by rw [hx] at h; cases h; exact hl⟩
      · rw [scanN_more hx hl]
        have := rec_in hx ha
        obtain ⟨q', h1, h2⟩ := steps_scan (D := D) k (o ++ [x.flatten]) (a + x.length) l (by omega) (by omega)
        exact ⟨q', .step hx hl h1, h2⟩
/-- A record hangs on its own sectors alone. -/
theorem recL_keep {D D' : DS} {n : Nat} : ∀ (js : List Nat) (life : Nat) (out o : List (List UInt8)) (l : Nat), recL D n js life out = some (o, l) → (∀ i j, js[i]? = some j → out.length + i < o.length → DS.sec D j = DS.sec D' j) → recL D' n js life out = some (o, l)
  | [], _, _, _, _, h, _ => by cases h
  | j :: js, life, out, o, l, h, hs => by
    have hlen := recL_len _ _ _ _ _ h
    have h0 := hs 0 j rfl (by omega)
    unfold recL at h ⊢
    rw [← h0]
    cases hx : DS.sec D j with
    | none => rw [hx] at h; cases h
    | some x =>
      rw [hx] at h
      simp only [] at h ⊢
      by_cases hc : x.record = n ∧ x.part = out.length ∧ x.life = (if out.length = 0 then x.life else life)
      · rw [if_pos hc] at h ⊢
        by_cases hl : x.last = true
        · rw [if_pos hl] at h ⊢; exact h
        · rw [if_neg hl] at h ⊢
          refine recL_keep js x.life (out ++ [x.s]) o l h fun i j' hi hlt => hs (i + 1) j' (by simpa using hi) (by rw [List.length_append, List.length_singleton] at hlt; omega)
      · rw [if_neg hc] at h; cases h
theorem rec_keep {D D' : DS} (hN : D.sure.length = D'.sure.length) {a n l : Nat} {x : List (List UInt8)} (h : DS.rec D a n = some (x, l)) (hs : ∀ j, a ≤ j → j < a + x.length → DS.sec D j = DS.sec D' j) : DS.rec D' a n = some (x, l) := by
  unfold DS.rec at h ⊢
  rw [← hN]
  refine recL_keep _ _ _ _ _ h fun i j hi hlt => ?_
  rw [List.length_nil, Nat.zero_add] at hlt
  have hj : j = a + i := by
    have := List.getElem?_eq_some_iff.1 hi
    obtain ⟨_, e⟩ := this
    rw [List.getElem_range'] at e
    omega
  exact hs j (by omega) (by omega)
theorem Steps.keep {D D' : DS} (hN : D.sure.length = D'.sure.length) {o o1 : List (List UInt8)} {a a1 q q1 : Nat} (h : Steps D o a q o1 a1 q1) (ha : a ≤ D.sure.length) (hs : ∀ j, a ≤ j → j < a1 → DS.sec D j = DS.sec D' j) : Steps D' o a q o1 a1 q1 := by
  induction h with
  | refl => exact .refl _ _ _
  | step hr hl h2 ih =>
    have h1 := rec_in hr ha
    have hle := h2.le (by omega)
    exact .step (rec_keep hN hr fun j h1 h2 => hs j h1 (by omega)) hl (ih (by omega) fun j h1 h2 => hs j (by omega) h2)
/-- The life of a record is a sector's. -/
theorem recL_life {D : DS} {n : Nat} : ∀ (js : List Nat) (life : Nat) (out o : List (List UInt8)) (l : Nat), recL D n js life out = some (o, l) → ∃ j ∈ js, ∃ y, DS.sec D j = some y ∧ y.life = l
  | [], _, _, _, _, h => by cases h
  | j :: js, life, out, o, l, h => by
    unfold recL at h
    cases hx : DS.sec D j with
    | none => rw [hx] at h; cases h
    | some x =>
      rw [hx] at h
      simp only [] at h
      by_cases hc : x.record = n ∧ x.part = out.length ∧ x.life = (if out.length = 0 then x.life else life)
      · rw [if_pos hc] at h
        by_cases hl : x.last = true
        · rw [if_pos hl] at h
          injection h with h
          injection h with h1 h2
          exact ⟨j, List.mem_cons_self, x, hx, h2⟩
        · rw [if_neg hl] at h
          obtain ⟨j', hj, r⟩ := recL_life js x.life (out ++ [x.s]) o l h
          exact ⟨j', List.mem_cons_of_mem _ hj, r⟩
      · rw [if_neg hc] at h; cases h
theorem great_ge {D : DS} {j : Nat} {x : Sec} (hj : j < D.sure.length) (h : DS.sec D j = some x) : x.life ≤ DS.great D := by
  have mono : ∀ (l : List Nat) (m : Nat), m ≤ l.foldl (DS.great1 D) m := fun l => by
    induction l with
    | nil => exact fun m => Nat.le_refl m
    | cons k l ih =>
      intro m
      rw [List.foldl_cons]
      refine Nat.le_trans ?_ (ih _)
      unfold DS.great1
      split <;> omega
  have key : ∀ (l : List Nat) (m : Nat), j ∈ l → x.life ≤ l.foldl (DS.great1 D) m := fun l => by
    induction l with
    | nil => intro m h; cases h
    | cons k l ih =>
      intro m hm
      rw [List.foldl_cons]
      rcases List.mem_cons.1 hm with rfl | hm
      · refine Nat.le_trans ?_ (mono l _)
        unfold DS.great1; rw [h]; simp only []; omega
      · exact ih _ hm
  exact key _ _ (by rw [List.mem_range'_1]; omega)
theorem great_le {D : DS} {m : Nat} (h : ∀ j x, j < D.sure.length → DS.sec D j = some x → x.life ≤ m) : DS.great D ≤ m := by
  have key : ∀ (l : List Nat) (a : Nat), a ≤ m → (∀ j ∈ l, j < D.sure.length) → l.foldl (DS.great1 D) a ≤ m := fun l => by
    induction l with
    | nil => exact fun a ha _ => ha
    | cons k l ih =>
      intro a ha hl
      rw [List.foldl_cons]
      refine ih _ ?_ (fun j hj => hl j (List.mem_cons_of_mem _ hj))
      unfold DS.great1
      cases hk : DS.sec D k with
      | none => exact ha
      | some x => simp only []; have := h k x (hl k List.mem_cons_self) hk; omega
  exact key _ _ (Nat.zero_le _) (fun j hj => by have := List.mem_range'_1.1 hj; omega)
end Go.Proofs.YteljihpheffjnaaDoor.Tape
/- A tape's records through crashes, in plain terms. -/
namespace Go.Proofs.YteljihpheffjnaaDoor.Tape
open Go.RowKit Go.Proofs.YteljihpheffjnaaDoor.Ord Go.Proofs.YteljihpheffjnaaDoorW.PrintWords Go.Proofs.YteljihpheffjnaaDoor.Base Go.Proofs.YteljihpheffjnaaDoor.Drum
set_option linter.unusedVariables false
set_option linter.unusedSimpArgs false

/-- The pieces of a text. -/
def pieces (s : List UInt8) (k : Nat) : List (List UInt8) := (List.range k).map (piece s)
theorem pieces_len (s : List UInt8) (k : Nat) : (pieces s k).length = k := by simp [pieces]
theorem pieces_succ (s : List UInt8) (k : Nat) : pieces s (k + 1) = pieces s k ++ [piece s k] := by simp [pieces, List.range_succ]
/-- A record whose later sectors are of an elder life is one that stood there before. -/
theorem recL_old {D G : DS} {n L : Nat} : ∀ (js : List Nat) (life : Nat) (out o : List (List UInt8)) (l : Nat), recL D n js life out = some (o, l) → out.length ≠ 0 → life < L → (∀ j ∈ js, DS.sec D j = DS.sec G j ∨ ∃ x, DS.sec D j = some x ∧ x.life = L) → recL G n js life out = some (o, l) ∧ l = life
  | [], _, _, _, _, h, _, _, _ => by cases h
  | j :: js, life, out, o, l, h, ho, hl, hs => by
    unfold recL at h ⊢
    cases hx : DS.sec D j with
    | none => rw [hx] at h; cases h
    | some x =>
      rw [hx] at h
      simp only [] at h
      by_cases hc : x.record = n ∧ x.part = out.length ∧ x.life = (if out.length = 0 then x.life else life)
      · rw [if_pos hc] at h
        have hlf : x.life = life := by have := hc.2.2; rwa [if_neg ho] at this
        have hg : DS.sec G j = some x := by
          rcases hs j List.mem_cons_self with e | ⟨y, hy, hyl⟩
          · rw [← e, hx]
          · rw [hx] at hy; injection hy with hy; subst hy; omega
        rw [hg]
        simp only []
        rw [if_pos hc]
        by_cases hla : x.last = true
        · rw [if_pos hla] at h ⊢
          refine ⟨h, ?_⟩
          injection h with h
          injection h with h1 h2
          omega
        · rw [if_neg hla] at h ⊢
          have := recL_old js x.life (out ++ [x.s]) o l h (by simp) (by omega) fun j' hj' => hs j' (List.mem_cons_of_mem _ hj')
          exact ⟨this.1, by omega⟩
      · rw [if_neg hc] at h; cases h
/-- A record whose first sectors are of this life is the one that was put. -/
theorem recL_new {D G : DS} {n L S : Nat} {s : List UInt8} (hG : ∀ p x, DS.sec G (S + p) = some x → x.life < L) (hs : ∀ p, p < needN s.length → DS.sec D (S + p) = DS.sec G (S + p) ∨ DS.sec D (S + p) = some (secOf L n s p)) :
    ∀ (m p : Nat) (o : List (List UInt8)) (l : Nat), recL D n (List.range' (S + p) m) L (pieces s p) = some (o, l) → p ≠ 0 → p < needN s.length → o = pieces s (needN s.length) ∧ l = L
  | 0, _, _, _, h, _, _ => by cases h
  | m + 1, p, o, l, h, h0, hp => by
    rw [List.range'_succ] at h
    unfold recL at h
    cases hx : DS.sec D (S + p) with
    | none => rw [hx] at h; cases h
    | some x =>
      rw [hx] at h
      simp only [pieces_len] at h
      by_cases hc : x.record = n ∧ x.part = p ∧ x.life = (if p = 0 then x.life else L)
      · rw [if_pos hc] at h
        have hlf : x.life = L := by have := hc.2.2; rwa [if_neg h0] at this
        have hxe : x = secOf L n s p := by
          rcases hs p hp with e | e
          · have := hG p x (by rw [← e, hx]); omega
          · rw [hx] at e; injection e
        subst hxe
        by_cases hla : p + 1 = needN s.length
        · rw [if_pos (by simp [secOf, hla])] at h
          injection h with h
          injection h with h1 h2
          refine ⟨?_, h2.symm⟩
          rw [← h1, ← hla, pieces_succ]; rfl
        · rw [if_neg (by simp [secOf, hla])] at h
          have := recL_new hG hs m (p + 1) o l (by rw [pieces_succ]; exact h) (by omega) (by omega)
          exact this
      · rw [if_neg hc] at h; cases h
theorem rec_mixed {D G : DS} {n L S : Nat} {s : List UInt8} {o : List (List UInt8)} {l : Nat} (hN : D.sure.length = G.sure.length) (hG : ∀ p x, DS.sec G (S + p) = some x → x.life < L) (hs : ∀ p, p < needN s.length → DS.sec D (S + p) = DS.sec G (S + p) ∨ DS.sec D (S + p) = some (secOf L n s p))
    (hall : ∀ p, DS.sec D (S + p) = DS.sec G (S + p) ∨ ∃ x, DS.sec D (S + p) = some x ∧ x.life = L) (h : DS.rec D S n = some (o, l)) : (l = L ∧ o = pieces s (needN s.length)) ∨ (DS.rec G S n = some (o, l) ∧ l < L) := by
  unfold DS.rec at h ⊢
  rw [← hN]
  cases hm : D.sure.length - S with
  | zero => rw [hm] at h; cases h
  | succ m =>
    rw [hm, List.range'_succ] at h
    rw [List.range'_succ]
    unfold recL at h
    cases hx : DS.sec D S with
    | none => rw [hx] at h; cases h
    | some x =>
      rw [hx] at h
      simp only [List.length_nil, if_true] at h
      by_cases hc : x.record = n ∧ x.part = 0 ∧ True
      · rw [if_pos hc] at h
        rcases hs 0 (needN_pos _) with e | e
        · have hg : DS.sec G S = some x := by rw [← hx]; exact e.symm
          have hlt := hG 0 x hg
          right
          unfold recL
          rw [hg]
          simp only [List.length_nil, if_true]
          rw [if_pos hc]
          by_cases hla : x.last = true
          · rw [if_pos hla] at h ⊢
            refine ⟨h, ?_⟩
            injection h with h
            injection h with h1 h2
            omega
          · rw [if_neg hla] at h ⊢
            have := recL_old (G := G) (L := L) _ x.life ([] ++ [x.s]) o l h (by simp) hlt fun j hj => by
              have hj' := List.mem_range'_1.1 hj
              rw [show j = S + (j - S) by omega]
              exact hall _
            exact ⟨this.1, by omega⟩
        · rw [Nat.add_zero, hx] at e
          injection e with e
          subst e
          left
          by_cases hla : 0 + 1 = needN s.length
          · rw [if_pos (by simp only [secOf, hla, decide_true])] at h
            injection h with h
            injection h with h1 h2
            refine ⟨h2.symm, ?_⟩
            rw [← h1, ← hla, pieces_succ]; rfl
          · rw [if_neg (by simp only [secOf, hla, decide_false]; decide)] at h
            have := recL_new hG hs m 1 o l (by rw [pieces_succ]; exact h) (by omega) (by have := needN_pos s.length; omega)
            exact ⟨this.2, this.1⟩
      · rw [if_neg hc] at h; cases h
/-- The sectors of records, in order. -/
def secsOf (L : Nat) : Nat → List (List UInt8) → List Sec
  | _, [] => []
  | c, s :: R => (List.range (needN s.length)).map (secOf L (c + 1) s) ++ secsOf L (c + 1) R
theorem secsOf_append (L : Nat) : ∀ (R R' : List (List UInt8)) (c : Nat), secsOf L c (R ++ R') = secsOf L c R ++ secsOf L (c + R.length) R'
  | [], R', c => rfl
  | s :: R, R', c => by rw [List.cons_append, secsOf, secsOf, secsOf_append L R R' (c + 1), List.append_assoc, List.length_cons, show c + 1 + R.length = c + (R.length + 1) by omega]
theorem secsOf_life (L : Nat) : ∀ (R : List (List UInt8)) (c : Nat), ∀ x ∈ secsOf L c R, x.life = L
  | [], _, x, h => by cases h
  | s :: R, c, x, h => by
    rw [secsOf] at h
    rcases List.mem_append.1 h with h | h
    · obtain ⟨p, _, rfl⟩ := List.mem_map.1 h; rfl
    · exact secsOf_life L R (c + 1) x h
theorem secsOf_len (L : Nat) : ∀ (R : List (List UInt8)) (c : Nat), R.length ≤ (secsOf L c R).length
  | [], _ => Nat.le_refl _
  | s :: R, c => by
    rw [secsOf, List.length_append, List.length_map, List.length_range, List.length_cons]
    have := secsOf_len L R (c + 1)
    have := needN_pos s.length
    omega
theorem secsOf_ok {L : Nat} (hL : 0 < L ∧ L < 4294967296) : ∀ (R : List (List UInt8)) (c : Nat), c + R.length < 4294967296 → (∀ s ∈ R, s.length ≤ 100000) → ∀ x ∈ secsOf L c R, x.ok
  | [], _, _, _, x, h => by cases h
  | s :: R, c, hc, hs, x, h => by
    rw [secsOf] at h
    rw [List.length_cons] at hc
    rcases List.mem_append.1 h with h | h
    · obtain ⟨p, hp, rfl⟩ := List.mem_map.1 h
      have hp' := List.mem_range.1 hp
      have := needN_le s.length
      have := hs s List.mem_cons_self
      exact secOf_ok hL (by omega) (by omega) hp'
    · exact secsOf_ok hL R (c + 1) (by omega) (fun s' hs' => hs s' (List.mem_cons_of_mem _ hs')) x h
theorem secs_head {L c : Nat} {s : List UInt8} {R : List (List UInt8)} {p : Nat} (hp : p < needN s.length) : (secsOf L c (s :: R))[p]? = some (secOf L (c + 1) s p) := by
  rw [secsOf, List.getElem?_append_left (by simpa using hp), List.getElem?_map, List.getElem?_range hp]; rfl
theorem secs_tail {L c : Nat} {s : List UInt8} {R : List (List UInt8)} (k : Nat) : (secsOf L c (s :: R))[needN s.length + k]? = (secsOf L (c + 1) R)[k]? := by
  rw [secsOf, List.getElem?_append_right (by simp)]; congr 1; simp
/-- BEHIND A CRASH: the records that are told from S on are the first few of those that were put there. -/
theorem told {D G : DS} {L : Nat} (hN : D.sure.length = G.sure.length) : ∀ (R A : List (List UInt8)) (S q : Nat), S ≤ D.sure.length → (∀ k, DS.sec D (S + k) = DS.sec G (S + k) ∨ ∃ x, (secsOf L A.length R)[k]? = some x ∧ DS.sec D (S + k) = some x) → (∀ p x, DS.sec G (S + p) = some x → x.life < L) →
    (Stop G S q (A.length + 1) ∨ q = L) → q ≤ L → ∃ r a' q', r ≤ R.length ∧ Steps D A S q (A ++ R.take r) a' q' ∧ Stop D a' q' (A.length + r + 1) ∧ (0 < r → q' = L)
  | [], A, S, q, hS, hmix, hlow, hstop, hq => by
    refine ⟨0, S, q, Nat.le_refl _, by simpa using Steps.refl A S q, fun x l hx => ?_, fun h => by omega⟩
    have hg : DS.rec G S (A.length + 1) = some (x, l) := rec_keep hN hx fun j h1 _ => by
      rw [show j = S + (j - S) by omega]
      rcases hmix (j - S) with e | ⟨y, hy, _⟩
      · exact e
      · simp [secsOf] at hy
    rcases hstop with h | h
    · exact h x l hg
    · have := recL_life _ _ _ _ _ hg
      obtain ⟨j, hj, y, hy, hyl⟩ := this
      have hj' := List.mem_range'_1.1 hj
      have := hlow (j - S) y (by rw [show S + (j - S) = j by omega]; exact hy)
      omega
  | s :: R, A, S, q, hS, hmix, hlow, hstop, hq => by
    cases hx : DS.rec D S (A.length + 1) with
    | none => exact ⟨0, S, q, Nat.zero_le _, by simpa using Steps.refl A S q, (fun x l h => by rw [Nat.add_zero, hx] at h; cases h), fun h => by omega⟩
    | some y =>
      obtain ⟨o, l⟩ := y
      have hm := rec_mixed hN hlow (s := s) (n := A.length + 1) (fun p hp => by
        rcases hmix p with e | ⟨x, hx, e⟩
        · exact .inl e
        · rw [secs_head hp] at hx; injection hx with hx; subst hx; exact .inr e) (fun p => by
        rcases hmix p with e | ⟨x, hx, e⟩
        · exact .inl e
        · exact .inr ⟨x, e, secsOf_life L _ _ x (List.mem_of_getElem? hx)⟩) hx
      rcases hm with ⟨rfl, ho⟩ | ⟨hg, hl⟩
      · have hin := rec_in hx hS
        have hol : o.length = needN s.length := by rw [ho, pieces_len]
        have hof : o.flatten = s := by rw [ho]; exact pieces_flat s
        obtain ⟨r, a', q', hr, hst, hsp, hq'⟩ := told hN R (A ++ [s]) (S + needN s.length) l (by omega) (fun k => by
          rw [show S + needN s.length + k = S + (needN s.length + k) by omega, List.length_append, List.length_singleton]
          have := hmix (needN s.length + k)
          rwa [secs_tail] at this) (fun p x hx => hlow (needN s.length + p) x (by rw [← Nat.add_assoc]; exact hx)) (.inr rfl) (Nat.le_refl _)
        refine ⟨r + 1, a', q', by rw [List.length_cons]; omega, .step hx (by omega) ?_, ?_, fun _ => ?_⟩
        · rw [hof, hol, List.take_succ_cons]
          rw [List.append_assoc] at hst
          exact hst
        · rw [List.length_append, List.length_singleton] at hsp
          rw [show A.length + (r + 1) + 1 = A.length + 1 + r + 1 by omega]; exact hsp
        · have := hst.was
          rcases Nat.eq_zero_or_pos r with h0 | h0
          · subst h0
            have h1 : l ≤ q' := this
            have : q' ≤ l := by
              rw [List.take_zero, List.append_nil] at hst
              cases hst with
              | refl => omega
              | step hr hl h2 =>
                have := h2.le (by have := rec_in hr (by omega); omega)
                rw [List.length_append, List.length_singleton] at this
                omega
            omega
          · exact hq' h0
      · refine ⟨0, S, q, Nat.zero_le _, by simpa using Steps.refl A S q, fun x l' h => ?_, fun h => by omega⟩
        rw [Nat.add_zero, hx] at h
        injection h with h
        injection h with h1 h2
        subst h2
        rcases hstop with h | h
        · exact h o l hg
        · omega
end Go.Proofs.YteljihpheffjnaaDoor.Tape
/- A tape and its drum from call to call, in plain terms: what Open, Append, Settle, a crash leave. -/
namespace Go.Proofs.YteljihpheffjnaaDoor.Tape
open Go.RowKit Go.Proofs.YteljihpheffjnaaDoor.Ord Go.Proofs.YteljihpheffjnaaDoorW.PrintWords Go.Proofs.YteljihpheffjnaaDoor.Base Go.Proofs.YteljihpheffjnaaDoor.Drum
set_option linter.unusedVariables false
set_option linter.unusedSimpArgs false

/-- A drum where nothing is on its way. -/
def pd (S : List (List UInt8)) : DS := ⟨S, [], false, 0, false⟩
theorem sec_pd (S : List (List UInt8)) (j : Nat) : DS.sec (pd S) j = saysN (S.getD j []) := rfl
theorem sec_pd_out {S : List (List UInt8)} {j : Nat} (h : S.length ≤ j) : DS.sec (pd S) j = none := by
  rw [sec_pd, List.getD_eq_getElem?_getD, List.getElem?_eq_none h]; exact saysN_nil
def looseOf : Nat → List Sec → List (Nat × List UInt8)
  | _, [] => []
  | S, x :: l => (S, layN x) :: looseOf (S + 1) l
theorem looseOf_len : ∀ (l : List Sec) (S : Nat), (looseOf S l).length = l.length
  | [], _ => rfl
  | x :: l, S => by rw [looseOf, List.length_cons, looseOf_len l, List.length_cons]
theorem looseOf_append : ∀ (l m : List Sec) (S : Nat), looseOf S (l ++ m) = looseOf S l ++ looseOf (S + l.length) m
  | [], m, S => rfl
  | x :: l, m, S => by rw [List.cons_append, looseOf, looseOf, looseOf_append l m, List.length_cons, List.cons_append, show S + 1 + l.length = S + (l.length + 1) by omega]
theorem looseOf_get : ∀ (l : List Sec) (S k : Nat), (looseOf S l)[k]? = (l[k]?).map fun x => (S + k, layN x)
  | [], _, _ => rfl
  | x :: l, S, 0 => rfl
  | x :: l, S, k + 1 => by rw [looseOf, List.getElem?_cons_succ, List.getElem?_cons_succ, looseOf_get l, show S + 1 + k = S + (k + 1) by omega]
theorem looseOf_mem {l : List Sec} {S : Nat} {z : Nat × List UInt8} (h : z ∈ looseOf S l) : ∃ k x, l[k]? = some x ∧ z = (S + k, layN x) := by
  obtain ⟨k, hk⟩ := List.getElem?_of_mem h
  rw [looseOf_get] at hk
  cases hl : l[k]? with
  | none => rw [hl] at hk; cases hk
  | some x => rw [hl] at hk; injection hk with hk; exact ⟨k, x, hl, hk.symm⟩
theorem burn_one (D : DS) : (D.burn.1 = 0 ∨ D.burn.1 = 9) ∧ D.burn.2.sure = D.sure ∧ D.burn.2.loose = D.loose ∧ D.burn.2.armed = D.armed ∧ (D.burn.1 = 9 → D.burn.2.down = true) := by
  refine ⟨?_, rfl, rfl, rfl, ?_⟩
  · unfold DS.burn burns; split
    · exact .inr rfl
    · split
      · exact .inr rfl
      · exact .inl rfl
  · unfold DS.burn burns; split
    · exact fun _ => rfl
    · split
      · exact fun _ => by assumption
      · exact fun h => by cases h
theorem write_cases (D : DS) (i : Nat) (s : List UInt8) (hi : i < D.sure.length) (hs : s.length = 64) : ((D.write (i : Int) s).1 = 0 ∧ (D.write (i : Int) s).2.sure = D.sure ∧ (D.write (i : Int) s).2.loose = D.loose ++ [(i, s)]) ∨ ((D.write (i : Int) s).1 = 9 ∧ (D.write (i : Int) s).2.sure = D.sure ∧ (D.write (i : Int) s).2.loose = D.loose) := by
  obtain ⟨h1, h2, h3, _⟩ := burn_one D
  unfold DS.write
  rw [if_neg (by rintro (x | x | x) <;> omega)]
  rcases h1 with h | h
  · rw [if_pos h]; exact .inl ⟨rfl, h2, by simp⟩
  · rw [if_neg (by omega)]; exact .inr ⟨h, h2, h3⟩
theorem puts_cases (T : TS) (s : List UInt8) : ∀ (m p : Nat) (D : DS), T.at_ + p + m ≤ D.sure.length →
    ((T.puts s (List.range' p m) D).1 = 0 ∧ (T.puts s (List.range' p m) D).2.sure = D.sure ∧ (T.puts s (List.range' p m) D).2.loose = D.loose ++ looseOf (T.at_ + p) ((List.range' p m).map (secOf T.life (T.count + 1) s))) ∨
    ((T.puts s (List.range' p m) D).1 = 9 ∧ (T.puts s (List.range' p m) D).2.sure = D.sure ∧ ∃ k, k ≤ m ∧ (T.puts s (List.range' p m) D).2.loose = D.loose ++ looseOf (T.at_ + p) ((List.range' p k).map (secOf T.life (T.count + 1) s)))
  | 0, p, D, _ => .inl ⟨rfl, rfl, by simp [TS.puts, looseOf]⟩
  | m + 1, p, D, h => by
    have hw := write_cases D (T.at_ + p) (layN (secOf T.life (T.count + 1) s p)) (by omega) (layN_len (secOf_len _ _ _ _))
    rw [List.range'_succ, TS.puts]
    rcases hw with ⟨h1, h2, h3⟩ | ⟨h1, h2, h3⟩
    · rw [if_pos h1]
      have ih := puts_cases T s m (p + 1) (D.write ((T.at_ + p : Nat) : Int) (layN (secOf T.life (T.count + 1) s p))).2 (by rw [h2]; omega)
      rw [h2, h3] at ih
      rcases ih with ⟨i1, i2, i3⟩ | ⟨i1, i2, k, hk, i3⟩
      · exact .inl ⟨i1, i2, by rw [i3, List.append_assoc, List.map_cons, looseOf]; rfl⟩
      · exact .inr ⟨i1, i2, k + 1, by omega, by rw [i3, List.append_assoc, List.range'_succ, List.map_cons, looseOf]; rfl⟩
    · rw [if_neg (by omega)]
      exact .inr ⟨h1, h2, 0, by omega, by rw [h3]; simp [looseOf]⟩
theorem keepN_either (p : Nat → Bool) (L : List (Nat × List UInt8)) (S : List (List UInt8)) (i : Nat) (x : List UInt8) : ∀ n, (keepN p L S n)[i]? = some x → S[i]? = some x ∨ ∃ z ∈ L, z.1 = i ∧ z.2 = x
  | 0, h => .inl h
  | n + 1, h => by
    unfold keepN at h
    cases hL : L[n]? with
    | none => rw [hL] at h; exact keepN_either p L S i x n h
    | some z =>
      rw [hL] at h
      simp only [] at h
      by_cases hp : p n = true
      · rw [if_pos hp] at h
        by_cases hz : z.1 = i
        · rw [List.getElem?_set, if_pos hz] at h
          split at h
          · injection h with h
            exact .inr ⟨z, List.mem_of_getElem? hL, hz, h⟩
          · cases h
        · rw [List.getElem?_set_ne hz] at h
          exact keepN_either p L S i x n h
      · rw [if_neg hp] at h
        exact keepN_either p L S i x n h
theorem keepN_put (l : List Sec) (S : Nat) (s : List (List UInt8)) (hS : S + l.length ≤ s.length) : ∀ n, n ≤ l.length → ∀ j, (keepN (fun _ => true) (looseOf S l) s n)[j]? = if S ≤ j ∧ j < S + n then (l[j - S]?).map layN else s[j]?
  | 0, _, j => by rw [if_neg (by omega)]; rfl
  | n + 1, hn, j => by
    have ih := keepN_put l S s hS n (by omega)
    unfold keepN
    obtain ⟨x, hx⟩ : ∃ x, l[n]? = some x := ⟨_, List.getElem?_eq_getElem (by omega)⟩
    rw [looseOf_get, hx]
    simp only [Option.map_some, if_true]
    by_cases hj : S + n = j
    · subst hj
      rw [List.getElem?_set, if_pos rfl, if_pos (by rw [keepN_len]; omega), if_pos (by omega), show S + n - S = n by omega, hx]; rfl
    · rw [List.getElem?_set_ne hj, ih j]
      by_cases hc : S ≤ j ∧ j < S + n
      · rw [if_pos hc, if_pos (by omega)]
      · rw [if_neg hc, if_neg (by omega)]
/-- A record that was put whole is told. -/
theorem recL_put {D : DS} {n L S : Nat} {s : List UInt8} (hs : ∀ p, p < needN s.length → DS.sec D (S + p) = some (secOf L n s p)) :
    ∀ (m p life : Nat), p < needN s.length → needN s.length ≤ p + m → (p ≠ 0 → life = L) → recL D n (List.range' (S + p) m) life (pieces s p) = some (pieces s (needN s.length), L)
  | 0, p, life, hp, hm, hl => by omega
  | m + 1, p, life, hp, hm, hl => by
    rw [List.range'_succ]
    unfold recL
    rw [hs p hp]
    simp only [pieces_len]
    rw [if_pos ⟨rfl, rfl, by
      by_cases h0 : p = 0
      · rw [if_pos h0]
      · rw [if_neg h0, hl h0]; rfl⟩]
    by_cases hla : p + 1 = needN s.length
    · rw [if_pos (by simp [secOf, hla])]
      rw [← hla, pieces_succ]; rfl
    · rw [if_neg (by simp [secOf, hla])]
      have := recL_put hs m (p + 1) (secOf L n s p).life (by omega) (by omega) (fun _ => rfl)
      rw [pieces_succ] at this
      exact this
theorem rec_put {D : DS} {n L S : Nat} {s : List UInt8} (hs : ∀ p, p < needN s.length → DS.sec D (S + p) = some (secOf L n s p)) (hN : S + needN s.length ≤ D.sure.length) : DS.rec D S n = some (pieces s (needN s.length), L) := by
  unfold DS.rec
  have := recL_put hs (D.sure.length - S) 0 0 (needN_pos _) (by omega) (fun h => absurd rfl h)
  exact this
theorem steps_all {D : DS} {L : Nat} : ∀ (R A : List (List UInt8)) (S q : Nat), (∀ k x, (secsOf L A.length R)[k]? = some x → DS.sec D (S + k) = some x) → S + (secsOf L A.length R).length ≤ D.sure.length → q ≤ L →
    ∃ q', Steps D A S q (A ++ R) (S + (secsOf L A.length R).length) q' ∧ q' ≤ L ∧ (R ≠ [] → q' = L) ∧ (R = [] → q' = q)
  | [], A, S, q, _, _, hq => ⟨q, by simpa [secsOf] using Steps.refl A S q, hq, fun h => absurd rfl h, fun _ => rfl⟩
  | s :: R, A, S, q, hs, hN, hq => by
    have hlen : (secsOf L A.length (s :: R)).length = needN s.length + (secsOf L (A.length + 1) R).length := by rw [secsOf, List.length_append, List.length_map, List.length_range]
    have hr := rec_put (D := D) (n := A.length + 1) (L := L) (S := S) (s := s) (fun p hp => hs p _ (secs_head hp)) (by omega)
    obtain ⟨q', h1, h2, h3, h4⟩ := steps_all R (A ++ [s]) (S + needN s.length) L (fun k x hx => by
      rw [List.length_append, List.length_singleton, ← secs_tail (s := s)] at hx
      rw [Nat.add_assoc]; exact hs _ x hx) (by rw [List.length_append, List.length_singleton]; omega) (Nat.le_refl _)
    refine ⟨q', .step hr (by omega) ?_, h2, fun _ => ?_, fun h => by cases h⟩
    · rw [show (pieces s (needN s.length)).flatten = s from pieces_flat s, pieces_len, hlen]
      rw [List.append_assoc, List.length_append, List.length_singleton, Nat.add_assoc] at h1
      exact h1
    · by_cases hR : R = []
      · rw [h4 hR]
      · exact h3 hR
end Go.Proofs.YteljihpheffjnaaDoor.Tape
/- What holds of a tape between calls, in plain terms. -/
namespace Go.Proofs.YteljihpheffjnaaDoor.Tape
open Go.RowKit Go.Proofs.YteljihpheffjnaaDoor.Ord Go.Proofs.YteljihpheffjnaaDoorW.PrintWords Go.Proofs.YteljihpheffjnaaDoor.Base Go.Proofs.YteljihpheffjnaaDoor.Drum
set_option linter.unusedVariables false
set_option linter.unusedSimpArgs false

/-- A tape T on a drum D of N sectors: A is what stands surely, R what was put behind it since. -/
structure Inv (N : Nat) (T : TS) (D : DS) (A R : List (List UInt8)) (S q : Nat) : Prop where
  len : D.sure.length = N
  few : N ≤ 4096
  steps : Steps (pd D.sure) [] 0 1 A S q
  stop : Stop (pd D.sure) S q (A.length + 1) ∨ q = T.life
  qle : q ≤ T.life
  low : ∀ p x, DS.sec (pd D.sure) (S + p) = some x → x.life < T.life
  all : ∀ j x, DS.sec (pd D.sure) j = some x → x.life ≤ T.life
  life : 0 < T.life ∧ T.life < 4294967296
  at_ : T.at_ ≤ N
  cnt : T.count ≤ T.at_
  had : T.count ≤ (A ++ R).length ∧ (A ++ R).length ≤ T.count + 1
  small : ∀ s ∈ R, s.length ≤ 100000
  loose : ∀ z ∈ D.loose, ∃ k x, (secsOf T.life A.length R)[k]? = some x ∧ z = (S + k, layN x)
  ll : D.loose.length ≤ N
  good : T.err = 0 → T.count = (A ++ R).length ∧ T.at_ = S + (secsOf T.life A.length R).length ∧ D.loose = looseOf S (secsOf T.life A.length R)
  err : T.err = 0 ∨ T.err = 9
theorem Inv.sle {N : Nat} {T : TS} {D : DS} {A R : List (List UInt8)} {S q : Nat} (h : Inv N T D A R S q) : S ≤ N ∧ A.length ≤ S := by
  have := h.steps.le (Nat.zero_le _)
  rw [show (pd D.sure).sure = D.sure from rfl, h.len] at this
  rw [List.length_nil] at this
  omega
theorem Steps.was_life {D : DS} {o o1 : List (List UInt8)} {a a1 q q1 : Nat} (h : Steps D o a q o1 a1 q1) (ha : a ≤ D.sure.length) : q1 = q ∨ q1 ≤ DS.great D := by
  induction h with
  | refl => exact .inl rfl
  | step hr hl h2 ih =>
    have h1 := rec_in hr ha
    right
    obtain ⟨j, hj, y, hy, hyl⟩ := recL_life _ _ _ _ _ hr
    have hj' := List.mem_range'_1.1 hj
    have hge := great_ge (by omega) hy
    rcases ih (by omega) with e | e
    · omega
    · exact e
theorem Steps.moved {D : DS} {o o1 : List (List UInt8)} {a a1 q q1 : Nat} (h : Steps D o a q o1 a1 q1) (ha : a ≤ D.sure.length) (hl : o.length < o1.length) : q1 ≤ DS.great D := by
  cases h with
  | refl => omega
  | step hr hl h2 =>
    have h1 := rec_in hr ha
    obtain ⟨j, hj, y, hy, hyl⟩ := recL_life _ _ _ _ _ hr
    have hj' := List.mem_range'_1.1 hj
    have hge := great_ge (by omega) hy
    rcases h2.was_life (by omega) with e | e
    · omega
    · exact e
theorem Steps.same {D : DS} {o o1 : List (List UInt8)} {a a1 q q1 : Nat} (h : Steps D o a q o1 a1 q1) (ha : a ≤ D.sure.length) (hl : o1.length = o.length) : a1 = a := by
  cases h with
  | refl => rfl
  | step hr hl2 h2 =>
    have h1 := rec_in hr ha
    have := h2.le (by omega)
    rw [List.length_append, List.length_singleton] at this
    omega
theorem pd_great_sec {S : List (List UInt8)} {j : Nat} {x : Sec} (h : DS.sec (pd S) j = some x) : x.life ≤ DS.great (pd S) := by
  rcases Nat.lt_or_ge j S.length with hj | hj
  · exact great_ge hj h
  · rw [sec_pd_out hj] at h; cases h
/-- Open. -/
theorem inv_open (S : List (List UInt8)) (hN : S.length ≤ 4096) (hg : DS.great (pd S) + 1 < 4294967296) : ∃ q, Inv S.length (DS.tape (pd S)) (pd S) (DS.scan (pd S)).1 [] (DS.scan (pd S)).2 q := by
  obtain ⟨q, h1, h2⟩ := steps_scan (D := pd S) S.length [] 0 1 (Nat.zero_le _) (Nat.le_add_left _ _)
  have hle := h1.le (Nat.zero_le _)
  have hw := h1.was_life (Nat.zero_le _)
  have e : DS.scan (pd S) = DS.scanN (pd S) S.length 0 1 [] := rfl
  rw [← e] at h1 h2 hle
  rw [List.length_nil] at hle
  refine ⟨q, rfl, hN, h1, .inl h2, ?_, fun p x hx => Nat.lt_succ_of_le (pd_great_sec hx), fun j x hx => Nat.le_succ_of_le (pd_great_sec hx), ⟨Nat.succ_pos _, hg⟩, hle.2.1, ?_, ?_, (fun s hs => by cases hs), (fun z hz => by cases hz), Nat.zero_le _, fun _ => ⟨?_, ?_, rfl⟩, .inl rfl⟩
  · show q ≤ DS.great (pd S) + 1; omega
  · show (DS.scan (pd S)).1.length ≤ (DS.scan (pd S)).2; omega
  · rw [List.append_nil]; exact ⟨Nat.le_refl _, Nat.le_succ _⟩
  · rw [List.append_nil]; rfl
  · simp [secsOf]; rfl
/-- The drum's other marks do not matter. -/
theorem Inv.marks {N : Nat} {T : TS} {D D' : DS} {A R : List (List UInt8)} {S q : Nat} (h : Inv N T D A R S q) (hs : D'.sure = D.sure) (hl : D'.loose = D.loose) : Inv N T D' A R S q := by
  obtain ⟨h1, h2, h3, h4, h5, h6, h7, h8, h9, h10, h11, h12, h13, h14, h15, h16⟩ := h
  rw [← hs] at h1 h3 h4 h6 h7
  rw [← hl] at h13 h14 h15
  exact ⟨h1, h2, h3, h4, h5, h6, h7, h8, h9, h10, h11, h12, h13, h14, h15, h16⟩
/-- One more that was on its way. -/
theorem Inv.way {N : Nat} {T : TS} {D : DS} {A R : List (List UInt8)} {S q : Nat} (h : Inv N T D A R S q) (he : T.err ≠ 0) (hc : (A ++ R).length = T.count) (s : List UInt8) (hs : s.length ≤ 100000) : Inv N T D A (R ++ [s]) S q := by
  obtain ⟨h1, h2, h3, h4, h5, h6, h7, h8, h9, h10, h11, h12, h13, h14, h15, h16⟩ := h
  refine ⟨h1, h2, h3, h4, h5, h6, h7, h8, h9, h10, ?_, fun s' hs' => ?_, fun z hz => ?_, h14, fun e => absurd e he, h16⟩
  · rw [← List.append_assoc, List.length_append, List.length_singleton]; omega
  · rcases List.mem_append.1 hs' with h | h
    · exact h12 s' h
    · rw [List.mem_singleton.1 h]; exact hs
  · obtain ⟨k, x, hk, e⟩ := h13 z hz
    refine ⟨k, x, ?_, e⟩
    rw [secsOf_append, List.getElem?_append_left (List.getElem?_eq_some_iff.1 hk).1]; exact hk
theorem secsOf_one (L c : Nat) (s : List UInt8) : secsOf L c [s] = (List.range (needN s.length)).map (secOf L (c + 1) s) := by simp [secsOf]
/-- Append. -/
theorem Inv.append {N : Nat} {T : TS} {D : DS} {A R : List (List UInt8)} {S q : Nat} (h : Inv N T D A R S q) (s : List UInt8) (hs : s.length ≤ 100000) :
    (T.err ≠ 0 ∧ T.append D s = (9, T, D)) ∨
    (T.err = 0 ∧ N - T.at_ < needN s.length ∧ T.append D s = (8, T, D)) ∨
    (T.err = 0 ∧ needN s.length ≤ N - T.at_ ∧ (T.append D s).1 = 0 ∧ (T.append D s).2.1 = ⟨T.count + 1, T.life, T.at_ + needN s.length, 0⟩ ∧ Inv N (T.append D s).2.1 (T.append D s).2.2 A (R ++ [s]) S q) ∨
    (T.err = 0 ∧ needN s.length ≤ N - T.at_ ∧ (T.append D s).1 = 9 ∧ (T.append D s).2.1 = { T with err := 9 } ∧ Inv N (T.append D s).2.1 (T.append D s).2.2 A (R ++ [s]) S q) := by
  by_cases he : T.err = 0
  · right
    by_cases hroom : N - T.at_ < needN s.length
    · left
      refine ⟨he, hroom, ?_⟩
      unfold TS.append
      rw [if_neg (by omega), h.len, if_pos hroom]
    · right
      obtain ⟨g1, g2, g3⟩ := h.good he
      have hc := puts_cases T s (needN s.length) 0 D (by rw [h.len]; have := h.at_; omega)
      rw [Nat.add_zero] at hc
      have hsnd : secsOf T.life A.length (R ++ [s]) = secsOf T.life A.length R ++ (List.range (needN s.length)).map (secOf T.life (T.count + 1) s) := by
        rw [secsOf_append, secsOf_one]
        rw [List.length_append] at g1
        rw [← g1]
      have hll : (secsOf T.life A.length R).length ≤ T.at_ := by omega
      have htk : ∀ k, k ≤ needN s.length → ∀ z ∈ D.loose ++ looseOf T.at_ ((List.range' 0 k).map (secOf T.life (T.count + 1) s)), ∃ j x, (secsOf T.life A.length (R ++ [s]))[j]? = some x ∧ z = (S + j, layN x) := fun k hk z hz => by
        rcases List.mem_append.1 hz with hz | hz
        · obtain ⟨j, x, hj, e⟩ := h.loose z hz
          refine ⟨j, x, ?_, e⟩
          rw [secsOf_append, List.getElem?_append_left (List.getElem?_eq_some_iff.1 hj).1]; exact hj
        · obtain ⟨j, x, hj, e⟩ := looseOf_mem hz
          rw [← List.range_eq_range'] at hj
          have hjk : j < k := by have := (List.getElem?_eq_some_iff.1 hj).1; simpa using this
          rw [List.getElem?_map, List.getElem?_range hjk] at hj
          refine ⟨(secsOf T.life A.length R).length + j, x, ?_, ?_⟩
          · rw [hsnd, List.getElem?_append_right (by omega), Nat.add_sub_cancel_left, List.getElem?_map, List.getElem?_range (by omega)]; exact hj
          · rw [e, g2]; congr 1; omega
      have hle := h.len
      have hkl : ∀ k, k ≤ needN s.length → (D.loose ++ looseOf T.at_ ((List.range' 0 k).map (secOf T.life (T.count + 1) s))).length ≤ N := fun k hk => by
        rw [List.length_append, looseOf_len, List.length_map, List.length_range', g3, looseOf_len]
        have := h.at_
        omega
      have hsm : ∀ s' ∈ R ++ [s], s'.length ≤ 100000 := fun s' hs' => by
        rcases List.mem_append.1 hs' with h' | h'
        · exact h.small s' h'
        · rw [List.mem_singleton.1 h']; exact hs
      have hcount := h.cnt
      have hat := h.at_
      have hnp := needN_pos s.length
      rcases hc with ⟨c1, c2, c3⟩ | ⟨c1, c2, k, hk, c3⟩
      · left
        have hap : T.append D s = (0, ⟨T.count + 1, T.life, T.at_ + needN s.length, 0⟩, (T.puts s (List.range' 0 (needN s.length)) D).2) := by
          unfold TS.append
          rw [if_neg (by omega), hle, if_neg (by omega), if_pos c1]
        rw [hap]
        refine ⟨he, by omega, rfl, rfl, ?_⟩
        obtain ⟨h1, h2, h3, h4, h5, h6, h7, h8, h9, h10, h11, h12, h13, h14, h15, h16⟩ := h
        rw [← c2] at h1 h3 h4 h6 h7
        refine ⟨h1, h2, h3, h4, h5, h6, h7, h8, ?_, ?_, ?_, hsm, ?_, ?_, fun _ => ⟨?_, ?_, ?_⟩, .inl rfl⟩
        · show T.at_ + needN s.length ≤ N; omega
        · show T.count + 1 ≤ T.at_ + needN s.length; omega
        · show T.count + 1 ≤ _ ∧ _ ≤ T.count + 1 + 1
          rw [← List.append_assoc, List.length_append, List.length_singleton]; omega
        · rw [c3]; exact htk _ (Nat.le_refl _)
        · rw [c3]; exact hkl _ (Nat.le_refl _)
        · show T.count + 1 = _
          rw [← List.append_assoc, List.length_append, List.length_singleton]; omega
        · show T.at_ + needN s.length = _
          rw [hsnd, List.length_append, List.length_map, List.length_range]; omega
        · show (T.puts s (List.range' 0 (needN s.length)) D).2.loose = looseOf S (secsOf T.life A.length (R ++ [s]))
          rw [c3, hsnd, looseOf_append, ← g3, ← g2, List.range_eq_range']
      · right
        have hap : T.append D s = (9, { T with err := 9 }, (T.puts s (List.range' 0 (needN s.length)) D).2) := by
          unfold TS.append
          rw [if_neg (by omega), hle, if_neg (by omega), if_neg (by omega), c1]
        rw [hap]
        refine ⟨he, by omega, rfl, rfl, ?_⟩
        obtain ⟨h1, h2, h3, h4, h5, h6, h7, h8, h9, h10, h11, h12, h13, h14, h15, h16⟩ := h
        rw [← c2] at h1 h3 h4 h6 h7
        refine ⟨h1, h2, h3, h4, h5, h6, h7, h8, h9, h10, ?_, hsm, ?_, ?_, (fun e => by cases e), .inr rfl⟩
        · show T.count ≤ _ ∧ _ ≤ T.count + 1
          rw [← List.append_assoc, List.length_append, List.length_singleton]; omega
        · rw [c3]; exact htk _ hk
        · rw [c3]; exact hkl _ hk
  · left
    refine ⟨he, ?_⟩
    unfold TS.append
    rw [if_pos he]
    rcases h.err with e | e
    · exact absurd e he
    · rw [e]
/-- Behind a crash. -/
theorem Inv.crash {N : Nat} {T : TS} {D : DS} {A R : List (List UInt8)} {S q : Nat} (h : Inv N T D A R S q) (zs : List Int) :
    ∃ S', D.crash zs = pd S' ∧ S'.length = N ∧ DS.great (pd S') ≤ T.life ∧ ∃ r, r ≤ R.length ∧ (DS.scan (pd S')).1 = A ++ R.take r ∧ (0 < r → T.life ≤ DS.great (pd S')) ∧ (r = 0 → (DS.scan (pd S')).2 = S) := by
  obtain ⟨S', hS'⟩ : ∃ S', S' = keepN (fun k => zs.contains (k : Int)) D.loose D.sure D.loose.length := ⟨_, rfl⟩
  have hlen : S'.length = D.sure.length := by rw [hS', keepN_len]
  have hA := h.sle
  have hok : ∀ x ∈ secsOf T.life A.length R, x.ok := secsOf_ok h.life R A.length (by
    have := h.had; rw [List.length_append] at this; have := h.cnt; have := h.at_; have := h.few; omega) h.small
  have hsec : ∀ j, DS.sec (pd S') j = DS.sec (pd D.sure) j ∨ ∃ k x, j = S + k ∧ (secsOf T.life A.length R)[k]? = some x ∧ DS.sec (pd S') j = some x := fun j => by
    cases hj : S'[j]? with
    | none =>
      left
      have h1 : S'.length ≤ j := List.getElem?_eq_none_iff.1 hj
      rw [sec_pd_out h1, sec_pd_out (by omega)]
    | some v =>
      have hj2 := hj
      rw [hS'] at hj2
      have hv : DS.sec (pd S') j = saysN v := by rw [sec_pd, List.getD_eq_getElem?_getD, hj]; rfl
      rcases keepN_either _ _ _ _ _ _ hj2 with e | ⟨z, hz, e1, e2⟩
      · left
        rw [hv, sec_pd, List.getD_eq_getElem?_getD, e]; rfl
      · right
        obtain ⟨k, x, hk, e⟩ := h.loose z hz
        subst e
        refine ⟨k, x, e1.symm, hk, ?_⟩
        rw [hv, ← e2]
        exact says_lay (hok x (List.mem_of_getElem? hk))
  have hpn : (pd D.sure).sure.length = (pd S').sure.length := hlen.symm
  have hst : Steps (pd S') [] 0 1 A S q := h.steps.keep hpn (Nat.zero_le _) fun j _ hj => by
    rcases hsec j with e | ⟨k, x, e, _⟩
    · exact e.symm
    · omega
  obtain ⟨r, a', q', hr, h1, h2, h3⟩ := told (D := pd S') (G := pd D.sure) (L := T.life) hpn.symm R A S q (by show S ≤ S'.length; rw [hlen, h.len]; exact hA.1) (fun k => by
    rcases hsec (S + k) with e | ⟨k', x, e, hk, hx⟩
    · exact .inl e
    · rw [show k = k' by omega]; exact .inr ⟨x, hk, by rw [e] at hx; exact hx⟩) h.low h.stop h.qle
  have hfull := hst.trans h1
  have hscan := scan_steps hfull (by rw [List.length_append, List.length_take, Nat.min_eq_left hr]; exact h2) (Nat.zero_le _) (pd S').sure.length (Nat.le_add_left _ _)
  refine ⟨S', by unfold DS.crash pd; rw [hS'], by rw [hlen, h.len], great_le fun j x hj hx => ?_, r, hr, ?_, fun h0 => ?_, fun h0 => ?_⟩
  · rcases hsec j with e | ⟨k, y, e, hk, hy⟩
    · exact h.all j x (by rw [← e]; exact hx)
    · rw [hy] at hx; injection hx with hx; subst hx
      rw [secsOf_life _ _ _ y (List.mem_of_getElem? hk)]; exact Nat.le_refl _
  · show (DS.scanN (pd S') (pd S').sure.length 0 1 []).1 = _
    rw [hscan]
  · have h4 := h3 h0
    subst h4
    exact h1.moved (by show S ≤ S'.length; rw [hlen, h.len]; exact hA.1) (by rw [List.length_append, List.length_take]; omega)
  · show (DS.scanN (pd S') (pd S').sure.length 0 1 []).2 = S
    rw [hscan]
    exact h1.same (by show S ≤ S'.length; rw [hlen, h.len]; exact hA.1) (by rw [h0, List.take_zero, List.append_nil])
/-- Settle. -/
theorem Inv.settle {N : Nat} {T : TS} {D : DS} {A R : List (List UInt8)} {S q : Nat} (h : Inv N T D A R S q) :
    (T.err ≠ 0 ∧ T.settle D = (9, T, D)) ∨
    (T.err = 0 ∧ (T.settle D).1 = 0 ∧ (T.settle D).2.1 = T ∧ ∃ q', Inv N T (T.settle D).2.2 (A ++ R) [] T.at_ q') ∨
    (T.err = 0 ∧ (T.settle D).1 = 9 ∧ (T.settle D).2.1 = { T with err := 9 } ∧ Inv N { T with err := 9 } (T.settle D).2.2 A R S q) := by
  by_cases he : T.err = 0
  · right
    obtain ⟨b1, b2, b3, b4, b5⟩ := burn_one D
    rcases b1 with hb | hb
    · left
      have hds : D.settle = (0, { D.burn.2 with sure := keepN (fun _ => true) D.loose D.sure D.loose.length, loose := [] }) := by unfold DS.settle; rw [if_pos hb]
      have hts : T.settle D = (0, T, { D.burn.2 with sure := keepN (fun _ => true) D.loose D.sure D.loose.length, loose := [] }) := by
        unfold TS.settle
        rw [if_neg (by omega), hds]
        cases T; simp only at he; subst he; rfl
      rw [hts]
      refine ⟨he, rfl, rfl, ?_⟩
      obtain ⟨g1, g2, g3⟩ := h.good he
      obtain ⟨secs, hsecs⟩ : ∃ l, l = secsOf T.life A.length R := ⟨_, rfl⟩
      obtain ⟨S', hS'⟩ : ∃ S', S' = keepN (fun _ => true) D.loose D.sure D.loose.length := ⟨_, rfl⟩
      have hA := h.sle
      have hlen : S'.length = D.sure.length := by rw [hS', keepN_len]
      have hget : ∀ j, S'[j]? = if S ≤ j ∧ j < S + secs.length then (secs[j - S]?).map layN else D.sure[j]? := fun j => by
        rw [hS', g3, looseOf_len, ← hsecs]
        exact keepN_put secs S D.sure (by rw [h.len, hsecs, ← g2]; exact h.at_) _ (Nat.le_refl _) j
      have hok : ∀ x ∈ secs, x.ok := by
        rw [hsecs]
        exact secsOf_ok h.life R A.length (by
          have := h.had; rw [List.length_append] at this; have := h.cnt; have := h.at_; have := h.few; omega) h.small
      have hin : ∀ k x, secs[k]? = some x → DS.sec (pd S') (S + k) = some x := fun k x hk => by
        have hk1 := (List.getElem?_eq_some_iff.1 hk).1
        rw [sec_pd, List.getD_eq_getElem?_getD, hget, if_pos (by omega), Nat.add_sub_cancel_left, hk]
        exact says_lay (hok x (List.mem_of_getElem? hk))
      have hout : ∀ j, (j < S ∨ S + secs.length ≤ j) → DS.sec (pd S') j = DS.sec (pd D.sure) j := fun j hj => by
        rw [sec_pd, sec_pd, List.getD_eq_getElem?_getD, List.getD_eq_getElem?_getD, hget, if_neg (by omega)]
      have hpn : (pd D.sure).sure.length = (pd S').sure.length := hlen.symm
      have hst : Steps (pd S') [] 0 1 A S q := h.steps.keep hpn (Nat.zero_le _) fun j _ hj => (hout j (.inl hj)).symm
      obtain ⟨q', k1, k2, k3, k4⟩ := steps_all (D := pd S') (L := T.life) R A S q (by rw [← hsecs]; exact hin) (by rw [← g2]; show T.at_ ≤ S'.length; rw [hlen, h.len]; exact h.at_) h.qle
      rw [← g2] at k1
      have hcn := h.cnt
      refine ⟨q', by rw [← hS']; exact hlen.trans h.len, h.few, by rw [← hS']; exact hst.trans k1, ?_, k2, fun p x hx => ?_, fun j x hx => ?_, h.life, h.at_, hcn, ?_, (fun s hs => by cases hs), (fun z hz => by cases hz), Nat.zero_le _, fun _ => ⟨?_, ?_, rfl⟩, h.err⟩
      · rw [← hS']
        by_cases hR : R = []
        · have hs0 : secs = [] := by rw [hsecs, hR]; rfl
          have e1 : T.at_ = S := by rw [g2, ← hsecs, hs0]; rfl
          rw [k4 hR, e1, hR, List.append_nil]
          rcases h.stop with hsp | hsp
          · left
            intro x l hx
            refine hsp x l (rec_keep hpn.symm hx fun j _ _ => hout j ?_)
            rw [hs0, List.length_nil]; omega
          · exact .inr hsp
        · exact .inr (k3 hR)
      · rw [← hS'] at hx
        rw [hout _ (.inr (by rw [hsecs]; omega))] at hx
        rw [g2, Nat.add_assoc] at hx
        exact h.low _ x hx
      · rw [← hS'] at hx
        by_cases hj : S ≤ j ∧ j < S + secs.length
        · have := hin (j - S) (secs[j - S]'(by omega)) (List.getElem?_eq_getElem (by omega))
          rw [show S + (j - S) = j by omega, hx] at this
          injection this with this
          have hm : secs[j - S]'(by omega) ∈ secsOf T.life A.length R := hsecs ▸ List.getElem_mem _
          rw [this, secsOf_life T.life R A.length _ hm]; exact Nat.le_refl _
        · rw [hout j (by omega)] at hx
          exact h.all j x hx
      · rw [List.append_nil]; omega
      · rw [List.append_nil]; exact g1
      · simp [secsOf]
    · right
      have hds : D.settle = D.burn := by unfold DS.settle; rw [if_neg (by omega)]
      have hts : T.settle D = (9, { T with err := 9 }, D.burn.2) := by
        unfold TS.settle
        rw [if_neg (by omega), hds, hb]
      rw [hts]
      refine ⟨he, rfl, rfl, ?_⟩
      obtain ⟨h1, h2, h3, h4, h5, h6, h7, h8, h9, h10, h11, h12, h13, h14, h15, h16⟩ := h.marks b2 b3
      exact ⟨h1, h2, h3, h4, h5, h6, h7, h8, h9, h10, h11, h12, h13, h14, (fun e => by cases e), .inr rfl⟩
  · left
    refine ⟨he, ?_⟩
    unfold TS.settle
    rw [if_pos he]
    rcases h.err with e | e
    · exact absurd e he
    · rw [e]
end Go.Proofs.YteljihpheffjnaaDoor.Tape
/- Lists of texts that grow, apart from other things; a tape on a drum without a fuse. -/
namespace Go.Proofs.YteljihpheffjnaaDoor.Tape
open Go.RowKit Go.Proofs.YteljihpheffjnaaDoor.Ord Go.Proofs.YteljihpheffjnaaDoorW.PrintWords Go.Proofs.YteljihpheffjnaaDoor.Base Go.Proofs.YteljihpheffjnaaDoor.Drum
set_option linter.unusedVariables false
set_option linter.unusedSimpArgs false
attribute [local irreducible] OpGives

theorem str_data (s : ByteArray) : (⟨s.data.toList.toArray⟩ : ByteArray) = s := by cases s; simp
theorem info_string : (Tryd.prog.info? 9).map (fun i => (i.zero, i.size, i.bytes)) = some (some (Value.string ⟨#[]⟩), 1, 16) := by kernel_rfl
section
variable {B : Nat} {w W : World} {l : List Thing}
theorem rot3 (a b c : Thing) (l : List Thing) : (a :: b :: c :: l).Perm (b :: c :: a :: l) := (List.Perm.swap b a (c :: l)).trans (List.Perm.cons b (List.Perm.swap c a l))
theorem rot3' (a b c : Thing) (l : List Thing) : (b :: c :: a :: l).Perm (a :: b :: c :: l) := (rot3 a b c l).symm
theorem texts_nil (h : Sep B w W l) : Sep B w W (textsT (.slice none 0 0) [] :: l) :=
  h.new (NewMem.refl _) (World.ownsRow_nil _ _ _ _) (fun k hk => by simp [textsT, Value.ownBlock] at hk)
/-- Texts from an address are put behind a list. -/
theorem texts_append {v : Value} {R : List (List UInt8)} (h : Sep B w W (textsT v R :: l)) (us : List (List UInt8)) (ad : Addr) (c : Nat) (hus : 0 < us.length) (hR : R.length + us.length ≤ 1000000) (hc : ∀ j s, us[j]? = some s → W.cell? (ad.add j) = some (.string ⟨s.toArray⟩)) :
    ∃ g cap W', (Builtin.append_ #[28, 28] 28 #[v, .slice (some ad) us.length c]).run Tryd.prog W = .ok (.slice (some ⟨g, 0, none⟩) (R.length + us.length) cap) W' ∧ Sep B w W' (textsT (.slice (some ⟨g, 0, none⟩) (R.length + us.length) cap) (R ++ us) :: l) := by
  obtain ⟨i0, hi0, hz0, hz1, hz2⟩ := info_parts info_string
  have hown : W.ownsRow 0 9 1 v R.length (strs R) := sep_head h
  obtain ⟨g, cap, W', hr, ho, hg, hat, hlt⟩ := run_append_lies (P := Tryd.prog) W 28 28 0 9 i0 _ 1 16 Tryd.underlying28 hi0 hz0 hz1 hz2 rfl (by decide) v R.length (strs R) hown ad us.length c (strs us) (by rw [strs_len]; omega)
    (fun j u hu => by
      unfold strs at hu
      rw [List.getElem?_map] at hu
      cases hj : us[j]? with
      | none => rw [hj] at hu; cases hu
      | some s => rw [hj, Option.map_some] at hu; rw [← Option.some.inj hu]; exact hc j s hj)
    (fun u hu => by
      obtain ⟨s, _, rfl⟩ := List.mem_map.1 hu; rfl) hus (by unfold maxLen; omega) (by omega) (Nat.zero_le _) W.heap.size rfl
  refine ⟨g, cap, W', hr, h.turn (t' := textsT (.slice (some ⟨g, 0, none⟩) (R.length + us.length) cap) (R ++ us)) (Mod.of_grown hg (fun k hk => hk)) ?_ fun k hk => ?_⟩
  · show W'.ownsRow 0 9 1 _ (R ++ us).length (strs (R ++ us))
    rw [List.length_append, show strs (R ++ us) = strs R ++ strs us by simp [strs]]
    exact ho
  · have hk' : g = k := by simpa [textsT, Value.ownBlock] using hk
    subst hk'
    rcases hat with e | e
    · exact .inl e
    · exact .inr (by omega)
theorem texts_one {v : Value} {R : List (List UInt8)} (h : Sep B w W (textsT v R :: l)) (s : ByteArray) (hR : R.length ≤ 100000) :
    ∃ g cap W', (Builtin.append_ #[28, 28] 28 #[v, .slice (some ⟨W.heap.size, 0, none⟩) 1 1]).run Tryd.prog (W.alloc (.cells #[.string s] 9)) = .ok (.slice (some ⟨g, 0, none⟩) (R.length + 1) cap) W' ∧ Sep B w W' (textsT (.slice (some ⟨g, 0, none⟩) (R.length + 1) cap) (R ++ [s.data.toList]) :: l) := by
  have := texts_append (h.grown (NewMem.alloc W (.cells #[.string s] 9))) [s.data.toList] ⟨W.heap.size, 0, none⟩ 1 (by rw [List.length_singleton]; omega) (by rw [List.length_singleton]; omega) (fun j x hj => by
    match j, hj with
    | 0, hj => simp at hj; subst hj; simp [go_sem, Addr.add]
    | j + 1, hj => simp at hj)
  exact this
end
/-- A drum without a fuse takes every write. -/
theorem puts_plain (T : TS) (s : List UInt8) : ∀ (m p : Nat) (D : DS), D.armed = false → D.down = false → T.at_ + p + m ≤ D.sure.length → (T.puts s (List.range' p m) D).1 = 0 ∧ (T.puts s (List.range' p m) D).2.armed = false ∧ (T.puts s (List.range' p m) D).2.down = false
  | 0, p, D, ha, hd, _ => ⟨rfl, ha, hd⟩
  | m + 1, p, D, ha, hd, h => by
    have hw := write_plain D ((T.at_ + p : Nat) : Int) (layN (secOf T.life (T.count + 1) s p)) ha hd (layN_len (secOf_len _ _ _ _)) (by omega) (by omega)
    rw [List.range'_succ, TS.puts, hw, if_pos rfl]
    exact puts_plain T s m (p + 1) _ ha hd (by show T.at_ + (p + 1) + m ≤ D.sure.length; omega)
theorem append_plain (T : TS) (D : DS) (s : List UInt8) (ha : D.armed = false) (hd : D.down = false) (he : T.err = 0) (hat : T.at_ ≤ D.sure.length) : (T.append D s).1 ≠ 9 ∧ (T.append D s).2.2.armed = false ∧ (T.append D s).2.2.down = false := by
  unfold TS.append
  rw [if_neg (by omega)]
  split
  · exact ⟨(by show (8 : Int) ≠ 9; decide), ha, hd⟩
  · have h := puts_plain T s (needN s.length) 0 D ha hd (by omega)
    rw [if_pos h.1]
    exact ⟨(by show (0 : Int) ≠ 9; decide), h.2⟩
theorem settle_plain (T : TS) (D : DS) (ha : D.armed = false) (hd : D.down = false) (he : T.err = 0) : (T.settle D).1 = 0 := by
  have hb : D.burn.1 = 0 := by unfold DS.burn burns; rw [ha, hd]; rfl
  unfold TS.settle DS.settle
  rw [if_neg (by omega), if_pos hb]
theorem settle_loose (T : TS) (D : DS) (he : T.err = 0) (h0 : (T.settle D).1 = 0) : (T.settle D).2.2.loose = [] := by
  unfold TS.settle DS.settle at h0 ⊢
  rw [if_neg (by omega)] at h0 ⊢
  by_cases hb : D.burn.1 = 0
  · rw [if_pos hb]
  · rw [if_neg hb] at h0; exact absurd h0 hb
theorem great_zero (N : Nat) : DS.great (DS.zero N) = 0 := great_none fun j => by
  unfold DS.zero
  rw [sec_clear, List.getD_eq_getElem?_getD, List.getElem?_replicate]
  split
  · exact saysN_zero
  · exact saysN_nil
theorem scan_zero (N : Nat) : DS.scan (DS.zero N) = ([], 0) := scan_none (by
  unfold DS.zero
  rw [sec_clear, List.getD_eq_getElem?_getD, List.getElem?_replicate]
  split
  · exact saysN_zero
  · exact saysN_nil)
theorem tape_zero (N : Nat) : DS.tape (DS.zero N) = ⟨0, 1, 0, 0⟩ := by unfold DS.tape; rw [scan_zero, great_zero]; rfl
theorem inv_zero (N : Nat) (hN : N ≤ 4096) : ∃ q, Inv N ⟨0, 1, 0, 0⟩ (DS.zero N) [] [] 0 q := by
  obtain ⟨q, h⟩ := inv_open (List.replicate N (List.replicate 64 0)) (by simpa using hN) (by rw [show pd (List.replicate N (List.replicate 64 0)) = DS.zero N from rfl, great_zero]; decide)
  rw [show pd (List.replicate N (List.replicate 64 0)) = DS.zero N from rfl, tape_zero, scan_zero, List.length_replicate] at h
  exact ⟨q, h⟩
end Go.Proofs.YteljihpheffjnaaDoor.Tape
