/- A region that draws its order, operations guarded by '&&' and '||' whose guards all hold among them: facts of a value and a world, each operation has its own relation. Over any program. -/
import Derived.Test.YtjelpapcboiimaaRm
namespace Go.Proofs.Ytjelpapcboiimaa.Ord
section
variable {P : Program} {ops : Array Oper} {Q : Exit → Act → World → Prop} {md : Region.Mode} {a0 : Act}
theorem OpGives.wpOpG {i : Nat} {o : Oper} {K : Act → World → Prop} {a : Act} {w : World} (hi : ops[i]? = some o) (hg : Region.wanted o (yielded ops a.tmps) = true)
    (h : OpGives P o a.eval w fun v w' => K (a.put o.dst v) w') : Go.wpOp P ops Q i K a w := by
  unfold Go.wpOp; rw [hi]; simp only [hg, if_true]
  refine .inl ?_
  unfold Oper.wp
  unfold OpGives at h
  generalize (execOp a.eval o).run P w = r at *
  cases r with
  | halt x w' => exact h.elim
  | ok n w' =>
    cases n with
    | value v => exact h
    | skip => exact h
    | enter f args => exact h.mono fun e w'' ⟨v, he, hk⟩ => by subst he; exact hk
    | _ => exact h.elim
theorem eval_put_ne (a : Act) (x : Option Tmp) (v : Value) (d : Tmp) (h : x ≠ some d) : (a.put x v).eval (.tmp d) = a.eval (.tmp d) := by
  cases x with
  | none => rfl
  | some t =>
    have : t ≠ d := fun e => h (by rw [e])
    simp only [Act.put, Act.eval]
    simp [Array.getD_eq_getD_getElem?, Array.getElem?_setIfInBounds, this]
theorem frL_read (g : Nat → Value) (L : Nat → Bool) {k : Nat} {d : Tmp} (hk : L k = true) (hd : dstAt ops k = some d) : ∀ n, k < n → (∀ j, j < n → j ≠ k → dstAt ops j ≠ some d) → d < a0.tmps.size → (frL ops a0 g L n).eval (.tmp d) = g k
  | 0, h, _, _ => by omega
  | n + 1, h, hu, hs => by
    unfold frL
    by_cases e : k = n
    · subst e
      rw [if_pos hk, hd, eval_put_same, frL_size, if_pos hs]
    · have ih := frL_read g L hk hd n (by omega) (fun j hj => hu j (by omega)) hs
      split
      · rw [eval_put_ne _ _ _ _ (hu n (by omega) (fun x => e x.symm))]; exact ih
      · exact ih
theorem yielded_of {a : Act} {k : Nat} {d : Tmp} {b : Bool} (hd : dstAt ops k = some d) (h : a.eval (.tmp d) = .bool b) : yielded ops a.tmps k = some b := by
  unfold yielded
  have e : (ops[k]?).bind (·.dst) = some d := hd
  rw [e, Option.bind_some]
  have h' : a.tmps.getD d undef = .bool b := h
  rw [Array.getD_eq_getD_getElem?] at h'
  cases hx : a.tmps[d]? with
  | none => rw [hx] at h'; cases h'
  | some v => rw [hx] at h'; simp at h'; subst h'; rfl
/-- Facts that stand through a relation. -/
def StL (R : World → World → Prop) : List (Value → World → Prop) → Prop
  | [] => True
  | f :: fs => (∀ v w w', f v w → R w w' → f v w') ∧ StL R fs
theorem StL.eq {R : World → World → Prop} {V : Value} {fs : List (Value → World → Prop)} (h : StL R fs) : StL R (eqM V :: fs) := ⟨fun _ _ _ h _ => h, h⟩
theorem st_of {R : World → World → Prop} : ∀ {fs : List (Value → World → Prop)}, StL R fs → ∀ i v w w', factM fs i v w → R w w' → factM fs i v w'
  | [], _, i, v, w, w', h, _ => by unfold factM; simp
  | f :: fs, hs, 0, v, w, w', h, hR => hs.1 v w w' h hR
  | f :: fs, hs, i + 1, v, w, w', h, hR => by
    have := st_of hs.2 i v w w' (by unfold factM at h ⊢; simpa using h) hR
    unfold factM at this ⊢; simpa using this
/-- An operation's guard: an earlier one that it waits for, and that writes a slot. -/
def guardOk (md : Region.Mode) (ops : Array Oper) (i sz : Nat) (oi : Oper) : Bool :=
  match oi.guard with
  | none => true
  | some (j, _) => waits md ops i j && (decide (j < i) && (match dstAt ops j with | some d => decide (d < sz) | none => false))
theorem guardOk_spec {i sz : Nat} {oi : Oper} (h : guardOk md ops i sz oi = true) : ∀ j b, oi.guard = some (j, b) → waits md ops i j = true ∧ j < i ∧ ∃ d, dstAt ops j = some d ∧ d < sz := by
  intro j b hg
  unfold guardOk at h
  rw [hg] at h
  simp only [Bool.and_eq_true, decide_eq_true_eq] at h
  obtain ⟨h1, h2, h3⟩ := h
  refine ⟨h1, h2, ?_⟩
  split at h3
  · rename_i d hd; exact ⟨d, hd, of_decide_eq_true h3⟩
  · cases h3
/-- Each guard's fact says that it holds. -/
def GuardsM (ops : Array Oper) (fs : List (Value → World → Prop)) : Prop := ∀ i, i < fs.length → match ops[i]? with
  | some oi => (match oi.guard with
    | some (j, b) => ∀ v w, factM fs j v w → v = .bool b
    | none => True)
  | none => True
def guardsIn (ops : Array Oper) (gs : List (Nat × Bool)) (n : Nat) : Bool := (List.range n).all fun i => match ops[i]? with
  | some oi => (match oi.guard with
    | some (j, b) => gs.any fun p => p.1 == j && p.2 == b
    | none => true)
  | none => true
def GuardsL (fs : List (Value → World → Prop)) : List (Nat × Bool) → Prop
  | [] => True
  | p :: ps => (∀ v w, factM fs p.1 v w → v = .bool p.2) ∧ GuardsL fs ps
theorem guardsL_mem {fs : List (Value → World → Prop)} : ∀ {gs : List (Nat × Bool)}, GuardsL fs gs → ∀ p ∈ gs, ∀ v w, factM fs p.1 v w → v = .bool p.2
  | [], _, p, hp => by simp at hp
  | q :: qs, h, p, hp => by
    rcases List.mem_cons.1 hp with rfl | hp
    · exact h.1
    · exact guardsL_mem h.2 p hp
theorem guardsM_of {fs : List (Value → World → Prop)} (gs : List (Nat × Bool)) {n : Nat} (hn : fs.length = n) (h : guardsIn ops gs n = true) (hl : GuardsL fs gs) : GuardsM ops fs := by
  intro i hi
  unfold guardsIn at h
  have := List.all_eq_true.1 h i (List.mem_range.2 (by omega))
  cases ho : ops[i]? with
  | none => trivial
  | some oi =>
    rw [ho] at this
    simp only at this ⊢
    cases hg : oi.guard with
    | none => trivial
    | some jb =>
      obtain ⟨j, b⟩ := jb
      rw [hg] at this
      obtain ⟨q, hq, he⟩ := List.any_eq_true.1 this
      simp only [Bool.and_eq_true, beq_iff_eq] at he
      have := guardsL_mem hl q hq
      rw [he.1, he.2] at this
      exact this
theorem guardsM_spec {fs : List (Value → World → Prop)} (h : GuardsM ops fs) : ∀ i oi j b, i < fs.length → ops[i]? = some oi → oi.guard = some (j, b) → ∀ v w, factM fs j v w → v = .bool b := by
  intro i oi j b hi ho hg
  have := h i hi
  rw [ho] at this
  simp only [hg] at this
  exact this
/-- The closed facts on a region's text: its first n operations are guarded by earlier ones alone, wait for earlier ones alone, write slots of their own, and wait wherever one reads what another writes; those behind wait for all of them, directly or through others. -/
def wiredG (md : Region.Mode) (ops : Array Oper) (n sz : Nat) : Bool :=
  decide (n ≤ ops.size) && Region.noSelect ops &&
  ((List.range n).all fun i => match ops[i]? with
    | some oi => guardOk md ops i sz oi && (oi.after.all fun e => !Region.binds md e || decide (e.on < i)) &&
      ((List.range n).all fun j => j == i || (!oneDst (dstAt ops i) (dstAt ops j) &&
        (match dstAt ops j with
          | some d => !((oi.op.operands.toList.any fun x => match x with | .tmp t => t == d | _ => false)) || (if j < i then waits md ops i j else waits md ops j i)
          | none => true)))
    | none => false) &&
  ((List.range ops.size).all fun j => decide (j < n) || (List.range n).all fun i => reaches md ops 12 j i)

structure WiredG (md : Region.Mode) (ops : Array Oper) (n sz : Nat) : Prop where
  le : n ≤ ops.size
  sel : Region.noSelect ops = true
  op : ∀ i, i < n → ∃ oi, ops[i]? = some oi ∧ (∀ e ∈ oi.after, Region.binds md e = true → e.on < i) ∧ ∀ j b, oi.guard = some (j, b) → waits md ops i j = true ∧ j < i ∧ ∃ d, dstAt ops j = some d ∧ d < sz
  dst : ∀ i j, i < n → j < n → j ≠ i → ∀ d, dstAt ops i = some d → dstAt ops j ≠ some d
  read : ∀ i j oi, i < n → j < n → j ≠ i → ops[i]? = some oi → ∀ d, dstAt ops j = some d → Operand.tmp d ∈ oi.op.operands → (if j < i then waits md ops i j else waits md ops j i) = true
  tail : ∀ j, n ≤ j → j < ops.size → ∀ i, i < n → reaches md ops 12 j i = true
theorem wiredG_spec {n sz : Nat} (h : wiredG md ops n sz = true) : WiredG md ops n sz := by
  unfold wiredG at h
  simp only [Bool.and_eq_true, decide_eq_true_eq, List.all_eq_true, List.mem_range, Bool.or_eq_true] at h
  obtain ⟨⟨⟨h1, h2⟩, h3⟩, h4⟩ := h
  have h3' : ∀ i, i < n → ∃ oi, ops[i]? = some oi ∧ guardOk md ops i sz oi = true ∧ (∀ e ∈ oi.after, Region.binds md e = true → e.on < i) ∧
      ∀ j, j < n → j ≠ i → (oneDst (dstAt ops i) (dstAt ops j) = false ∧ ∀ d, dstAt ops j = some d → Operand.tmp d ∈ oi.op.operands → (if j < i then waits md ops i j else waits md ops j i) = true) := by
    intro i hi
    have := h3 i hi
    cases ho : ops[i]? with
    | none => rw [ho] at this; cases this
    | some oi =>
      rw [ho] at this
      simp only [Bool.and_eq_true, Array.all_eq_true_iff_forall_mem, Bool.or_eq_true, Bool.not_eq_true', decide_eq_true_eq, List.all_eq_true, List.mem_range, beq_iff_eq] at this
      obtain ⟨⟨g1, g2⟩, g3⟩ := this
      refine ⟨oi, rfl, g1, fun e he hb => ?_, fun j hj hji => ?_⟩
      · rcases g2 e he with x | x
        · rw [x] at hb; cases hb
        · exact x
      · rcases g3 j hj with x | ⟨x1, x2⟩
        · exact absurd x hji
        · refine ⟨x1, fun d hd hmem => ?_⟩
          rw [hd] at x2
          simp only [Bool.or_eq_true, Bool.not_eq_true'] at x2
          rcases x2 with y | y
          · have : (oi.op.operands.toList.any fun x => match x with | .tmp t => t == d | _ => false) = true :=
              List.any_eq_true.2 ⟨.tmp d, by simpa using hmem, by simp⟩
            rw [this] at y; cases y
          · exact y
  refine ⟨h1, h2, fun i hi => ?_, fun i j hi hj hji d hd hd' => ?_, fun i j oi hi hj hji ho d hd hm => ?_, fun j hj hjs i hi => ?_⟩
  · obtain ⟨oi, a, b, c, _⟩ := h3' i hi; exact ⟨oi, a, c, guardOk_spec b⟩
  · obtain ⟨oi, _, _, _, f⟩ := h3' i hi
    have := (f j hj hji).1
    rw [hd, hd'] at this
    simp [oneDst] at this
  · obtain ⟨oi', a, _, _, f⟩ := h3' i hi
    rw [ho] at a; injection a with a; subst a
    exact (f j hj hji).2 d hd hm
  · rcases h4 j hjs with x | x
    · omega
    · exact x i hi

section
variable {n : Nat} (S : (Nat → Bool) → World → Prop) (R : Nat → World → World → Prop) (φ : Nat → Value → World → Prop)
theorem region_core5 {sz : Nat} (hw : WiredG md ops n sz) (hsz : a0.tmps.size = sz) (hgd : ∀ i oi j b, i < n → ops[i]? = some oi → oi.guard = some (j, b) → ∀ v w, φ j v w → v = .bool b) (hφ : ∀ i j v w w', i ≠ j → φ i v w → R j w w' → φ i v w')
    (step : ∀ i oi, i < n → ops[i]? = some oi → ∀ g w L, L i = false → S L w → (∀ j, j < i → waits md ops i j = true → φ j (g j) w) →
      OpGives P oi (pre ops a0 g i).eval w (fun v w' => R i w w' ∧ φ i v w' ∧ S (fun k => if k = i then true else L k) w'))
    (fin : ∀ g w L, (∀ i, i < n → L i = true) → S L w → (∀ i, i < n → φ i (g i) w) → wpAny P md ops Q (ops.size - n) (doneN ops n) (pre ops a0 g n) w) :
    ∀ (m : Nat) (listed : Array Bool) (g : Nat → Value) (w : World), (List.range n).countP (fun j => !listed.getD j false) = m → listed.size = ops.size →
      (∀ j oj, listed.getD j false = true → ops[j]? = some oj → ∀ e ∈ oj.after, Region.binds md e = true → listed.getD e.on false = true) →
      (∀ j, n ≤ j → listed.getD j false = false) → S (fun k => listed.getD k false) w → (∀ j, j < n → listed.getD j false = true → φ j (g j) w) →
      wpAny P md ops Q (m + (ops.size - n)) listed (frL ops a0 g (fun j => listed.getD j false) n) w := by
  intro m
  induction m with
  | zero =>
    intro listed g w hc hszl hcl htl hSw hph
    have hall : ∀ j, j < n → listed.getD j false = true := fun j hj => by
      have := count_zero _ n hc j hj; simpa using this
    have hl : listed = doneN ops n := by
      apply Array.ext
      · simp [doneN, hszl]
      · intro j h1 h2
        have e : listed[j] = listed.getD j false := by simp [h1]
        rw [e]
        simp only [doneN, List.getElem_toArray, List.getElem_map, List.getElem_range]
        by_cases hj : j < n
        · simp [hall j hj, hj]
        · rw [htl j (by omega)]; simp [hj]
    rw [frL_all g _ n hall, Nat.zero_add]
    subst hl
    exact fin g w _ (fun i hi => hall i hi) hSw (fun i hi => hph i hi (hall i hi))
  | succ m ih =>
    intro listed g w hc hszl hcl htl hSw hph
    rw [show m + 1 + (ops.size - n) = (m + (ops.size - n)) + 1 by omega]
    -- some operation may come up: the first that is not listed
    have hex : ∃ i, i < n ∧ listed.getD i false = false := by
      apply Classical.byContradiction
      intro hno
      have : (List.range n).countP (fun j => !listed.getD j false) = 0 := by
        rw [List.countP_eq_zero]
        intro j hj
        have hj' := List.mem_range.1 hj
        cases hl : listed.getD j false with
        | true => simp
        | false => exact absurd ⟨j, hj', hl⟩ hno
      omega
    have hunl : ∀ j, j < ops.size → (listed.getD j true = false ↔ listed.getD j false = false) := fun j hj => by simp [hszl, hj]
    have hne : Region.ready md ops listed ≠ [] := by
      intro h0
      obtain ⟨i, hi, hl⟩ := hex
      have key : ∀ d i, i = d → i < n → listed.getD i false = false → False := by
        intro d
        induction d using Nat.strongRecOn with
        | _ d ihd =>
          intro i hid hi hl
          obtain ⟨oi, ho, hdep, _⟩ := hw.op i hi
          have : i ∈ Region.ready md ops listed := mem_ready.2 ⟨(hunl i (by have := hw.le; omega)).2 hl, oi, ho, fun e he hb => by
            have hlt := hdep e he hb
            cases hx : listed.getD e.on false with
            | true => rfl
            | false => exact (ihd e.on (by omega) e.on rfl (by omega) hx).elim⟩
          rw [h0] at this; cases this
      exact key i i rfl hi hl
    refine ⟨fun h0 => absurd h0 hne, fun j hj => ?_⟩
    obtain ⟨hjun, oj, hoj, hdeps⟩ := mem_ready.1 hj
    have hjs : j < ops.size := (Array.getElem?_eq_some_iff.1 hoj).1
    have hjl := (hunl j hjs).1 hjun
    have hjn : j < n := by
      rcases Nat.lt_or_ge j n with h | h
      · exact h
      · obtain ⟨i, hi, hl⟩ := hex
        have := reaches_listed hcl 12 j i oj hoj hdeps (hw.tail j h hjs i hi)
        rw [hl] at this; cases this
    obtain ⟨oj2, ho2, _, hgu⟩ := hw.op j hjn
    rw [hoj] at ho2; injection ho2 with ho2; subst ho2
    -- the frame reads as the one in the text's order
    have hread : execOp (frL ops a0 g (fun j => listed.getD j false) n).eval oj = execOp (pre ops a0 g j).eval oj := by
      rw [← frL_pre (ops := ops) (a0 := a0) g j n (by omega)]
      refine execOp_congr oj (fun cs b => Region.noSelect_spec hw.sel j oj cs b hoj) (fun x hx => ?_)
      cases x with
      | tmp t =>
        refine frL_agree g _ _ t n (fun k hk hdk => ?_)
        by_cases hkj : k = j
        · subst hkj; simp [hjl]
        · have := hw.read j k oj hjn hk hkj hoj t hdk hx
          by_cases hlt : k < j
          · rw [if_pos hlt] at this
            obtain ⟨o', ho', e, he, hb, hon⟩ := waits_spec this
            rw [hoj] at ho'; injection ho' with ho'; subst ho'
            have h2 := hdeps e he hb
            rw [hon] at h2
            simp only [h2, decide_eq_true hlt]
          · rw [if_neg hlt] at this
            obtain ⟨o', ho', e, he, hb, hon⟩ := waits_spec this
            have hnl : listed.getD k false = false := by
              cases hx : listed.getD k false with
              | false => rfl
              | true =>
                have := hcl k o' hx ho' e he hb
                rw [hon, hjl] at this; cases this
            simp only [hnl, decide_eq_false hlt]
      | _ => rfl
    have hdst : oj.dst = dstAt ops j := by simp [dstAt, hoj]
    have hst := step j oj hjn hoj g w _ hjl hSw (fun k hk hwk => by
      obtain ⟨o', ho', e, he, hb, hon⟩ := waits_spec hwk
      rw [hoj] at ho'; injection ho' with ho'; subst ho'
      have h2 := hdeps e he hb
      rw [hon] at h2
      exact hph k (by omega) h2)
    have hwant : Region.wanted oj (yielded ops (frL ops a0 g (fun j => listed.getD j false) n).tmps) = true := by
      unfold Region.wanted
      cases hg : oj.guard with
      | none => rfl
      | some kb =>
        obtain ⟨k, b⟩ := kb
        obtain ⟨hwk, hkj, d, hd, hdsz⟩ := hgu k b hg
        obtain ⟨o', ho', e, he, hb, hon⟩ := waits_spec hwk
        rw [hoj] at ho'; injection ho' with ho'; subst ho'
        have h2 := hdeps e he hb
        rw [hon] at h2
        have hv := hgd j oj k b hjn hoj hg _ _ (hph k (by omega) h2)
        have hr := frL_read (a0 := a0) g (fun j => listed.getD j false) (k := k) (d := d) h2 hd n (by omega) (fun j' hj' hne' => hw.dst k j' (by omega) hj' hne' d hd) (by rw [hsz]; exact hdsz)
        rw [hv] at hr
        simp only [yielded_of hd hr]
        simp
    refine OpGives.wpOpG hoj hwant ?_
    unfold OpGives at hst ⊢
    rw [hread]
    refine OpGives.mono (o := oj) (ρ := (pre ops a0 g j).eval) hst (fun v w' ⟨hR, hphv, hSn⟩ => ?_)
    have hL : ∀ k, (listed.setIfInBounds j true).getD k false = if k = j then true else listed.getD k false := fun k => by
      by_cases hk : k = j
      · subst hk; simp [hszl, hjs]
      · simp only [hk, if_false]; exact getD_set_ne false (fun x => hk x.symm)
    have hfr : (frL ops a0 g (fun j => listed.getD j false) n).put oj.dst v = frL ops a0 (upd g j v) (fun k => (listed.setIfInBounds j true).getD k false) n := by
      rw [hdst]
      refine (frL_upd n g _ _ j v hjl (by simp [hL]) (fun k hk => by simp [hL, hk]) (fun k hk hkj d hd => hw.dst j k hjn hk hkj d hd) n (Nat.le_refl _) hjn).symm
    rw [hfr]
    refine ih (listed.setIfInBounds j true) (upd g j v) w' ?_ (by simp [hszl]) ?_ ?_ (by rw [show (fun k => (listed.setIfInBounds j true).getD k false) = (fun k => if k = j then true else listed.getD k false) from funext hL]; exact hSn) ?_
    · have := count_step (fun k => !listed.getD k false) (fun k => !(listed.setIfInBounds j true).getD k false) j (by simp [hjl]) (by simp [hL]) (fun k hk => by simp [hL, hk]) n hjn
      omega
    · intro k ok hk hok e he hb
      rw [hL] at hk ⊢
      by_cases hkj : k = j
      · subst hkj
        rw [hoj] at hok; injection hok with hok; subst hok
        split
        · rfl
        · exact hdeps e he hb
      · rw [if_neg hkj] at hk
        split
        · rfl
        · exact hcl k ok hk hok e he hb
    · intro k hk
      rw [hL, if_neg (by omega)]; exact htl k hk
    · intro k hk hl
      by_cases hkj : k = j
      · subst hkj; rw [upd_same]; exact hphv
      · rw [upd_other g v hkj]
        rw [hL, if_neg hkj] at hl
        exact hφ _ _ _ _ _ hkj (hph k hk hl) hR

end
section
variable {S : (Nat → Bool) → World → Prop} {R : Nat → World → World → Prop} {all : List (Value → World → Prop)}
/-- One obligation for each operation, in the order of the text. -/
def StepsW (P : Program) (ops : Array Oper) (a0 : Act) (S : (Nat → Bool) → World → Prop) (R : Nat → World → World → Prop) (all : List (Value → World → Prop)) : Nat → List Oper → List (Value → World → Prop) → Prop
  | _, [], [] => True
  | i, o :: os, f :: fs => (∀ (g : Nat → Value) (w : World) (L : Nat → Bool), L i = false → S L w → (∀ j, j < i → waits .any ops i j = true → factM all j (g j) w) →
      OpGives P o (pre ops a0 g i).eval w (fun v w' => R i w w' ∧ f v w' ∧ S (fun k => if k = i then true else L k) w')) ∧ StepsW P ops a0 S R all (i + 1) os fs
  | _, _, _ => False
theorem stepsW_nil {i : Nat} : StepsW P ops a0 S R all i [] [] := trivial
theorem stepsW_cons {i : Nat} {o : Oper} {os : List Oper} {f : Value → World → Prop} {fs : List (Value → World → Prop)}
    (h : ∀ (g : Nat → Value) (w : World) (L : Nat → Bool), L i = false → S L w → (∀ j, j < i → waits .any ops i j = true → factM all j (g j) w) → OpGives P o (pre ops a0 g i).eval w (fun v w' => R i w w' ∧ f v w' ∧ S (fun k => if k = i then true else L k) w'))
    (rest : StepsW P ops a0 S R all (i + 1) os fs) : StepsW P ops a0 S R all i (o :: os) (f :: fs) := ⟨h, rest⟩
theorem stepsW_get : ∀ (os : List Oper) (fs : List (Value → World → Prop)) (k : Nat), StepsW P ops a0 S R all k os fs →
    ∀ i o, os[i]? = some o → ∃ f, fs[i]? = some f ∧ (∀ (g : Nat → Value) (w : World) (L : Nat → Bool), L (k + i) = false → S L w → (∀ j, j < k + i → waits .any ops (k + i) j = true → factM all j (g j) w) →
      OpGives P o (pre ops a0 g (k + i)).eval w (fun v w' => R (k + i) w w' ∧ f v w' ∧ S (fun x => if x = k + i then true else L x) w'))
  | [], _, _, _, i, o, h => by simp at h
  | o :: os, [], _, hs, _, _, _ => by simp [StepsW] at hs
  | o :: os, f :: fs, k, hs, i, o', h => by
    cases i with
    | zero =>
      simp at h; subst h
      exact ⟨f, rfl, hs.1⟩
    | succ i =>
      obtain ⟨f', hf, hx⟩ := stepsW_get os fs (k + 1) hs.2 i o' (by simpa using h)
      refine ⟨f', by simpa using hf, ?_⟩
      have e : k + 1 + i = k + (i + 1) := by omega
      rw [e] at hx
      exact hx
/-- THE REGION: what holds hangs on which operations are over. -/
theorem wp_region_factsW {id : Nat} {w : World} {S : (Nat → Bool) → World → Prop} (R : Nat → World → World → Prop) (fs : List (Value → World → Prop)) (hm : P.follows .mixedOrders = true) {sz : Nat} (hw : wiredG .any ops fs.length sz = true) (hsz : a0.tmps.size = sz)
    (hgd : GuardsM ops fs)
    (hst : ∀ i j v w w', i ≠ j → factM fs i v w → R j w w' → factM fs i v w') (h0 : S (fun _ => false) w.drew) (steps : StepsW P ops a0 S R fs 0 (ops.toList.take fs.length) fs)
    (fin : ∀ g w L, (∀ i, i < fs.length → L i = true) → S L w → (∀ i, i < fs.length → factM fs i (g i) w) → wpAny P .any ops Q (ops.size - fs.length) (doneN ops fs.length) (pre ops a0 g fs.length) w) :
    (Code.region id ops true).wp P Q a0 w := by
  refine wp_region_any hm ?_
  have hW := wiredG_spec hw
  have hf : ∀ j, (Array.replicate ops.size false).getD j false = false := fun j => by
    rcases Nat.lt_or_ge j ops.size with h | h <;> simp [h]
  have h := region_core5 (Q := Q) (a0 := a0) (fun L w => S L w) R (factM fs) hW hsz (fun i oi j b hi ho hg v w hf => guardsM_spec hgd i oi j b hi ho hg v w hf)
    hst
    (fun i oi hi ho g w L hLi hSw hd => by
      obtain ⟨f, hf, hx⟩ := stepsW_get _ _ 0 steps i oi (by rw [List.getElem?_take, if_pos hi]; simpa using ho)
      have := hx g w L (by rw [Nat.zero_add]; exact hLi) hSw (fun j hj hw => hd j (by omega) (by simpa using hw))
      simp only [Nat.zero_add] at this
      exact this.mono fun v w' ⟨hr, hp, hs⟩ => ⟨hr, by unfold factM; rw [hf]; exact hp, hs⟩)
    (fun g w L hL hSw hp => fin g w L hL hSw hp) fs.length (Array.replicate ops.size false) (fun _ => undef) w.drew
    (by rw [List.countP_eq_length.2]; · simp
        · intro j _; simp only [hf]; rfl) (by simp) (fun j oj hj => by rw [hf] at hj; cases hj) (fun j _ => hf j) (by rw [show (fun k => (Array.replicate ops.size false).getD k false) = fun _ => false from funext hf]; exact h0) (fun j _ hj => by rw [hf] at hj; cases hj)
  have e1 : fs.length + (ops.size - fs.length) = ops.size := by have := hW.le; omega
  rw [e1] at h
  have e2 : ∀ m, frL ops a0 (fun _ => undef) (fun j => (Array.replicate ops.size false).getD j false) m = a0 := by
    intro m
    induction m with
    | zero => rfl
    | succ m ihm => unfold frL; rw [hf, ihm]; simp
  rw [e2] at h
  exact h
end
end
end Go.Proofs.Ytjelpapcboiimaa.Ord
