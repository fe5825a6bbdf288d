/- A region that draws its order, one of its operations set apart (an append): what holds ahead of it need not hold behind. Over any program. -/
import Derived.Test.YtjelpapcboiimaaRg
namespace Go.Proofs.Ytjelpapcboiimaa.Ord
section
variable {P : Program} {ops : Array Oper} {Q : Exit → Act → World → Prop} {md : Region.Mode} {a0 : Act}
/-- Does operation j wait for operation i, directly or through others? -/
def reaches (md : Region.Mode) (ops : Array Oper) : Nat → Nat → Nat → Bool
  | 0, j, i => waits md ops j i
  | m + 1, j, i => waits md ops j i || (List.range ops.size).any fun k => waits md ops j k && reaches md ops m k i
theorem reaches_listed {listed : Array Bool} (hcl : ∀ j oj, listed.getD j false = true → ops[j]? = some oj → ∀ e ∈ oj.after, Region.binds md e = true → listed.getD e.on false = true) :
    ∀ (m j i : Nat) (oj : Oper), ops[j]? = some oj → (∀ e ∈ oj.after, Region.binds md e = true → listed.getD e.on false = true) → reaches md ops m j i = true → listed.getD i false = true
  | 0, j, i, oj, hj, hd, h => by
    obtain ⟨oj', ho', e, he, hb, hon⟩ := waits_spec h
    rw [hj] at ho'; injection ho' with ho'; subst ho'
    have := hd e he hb
    rwa [hon] at this
  | m + 1, j, i, oj, hj, hd, h => by
    unfold reaches at h
    rw [Bool.or_eq_true] at h
    rcases h with h | h
    · obtain ⟨oj', ho', e, he, hb, hon⟩ := waits_spec h
      rw [hj] at ho'; injection ho' with ho'; subst ho'
      have := hd e he hb
      rwa [hon] at this
    · obtain ⟨k, hk, hh⟩ := List.any_eq_true.1 h
      rw [Bool.and_eq_true] at hh
      obtain ⟨oj', ho', e, he, hb, hon⟩ := waits_spec hh.1
      rw [hj] at ho'; injection ho' with ho'; subst ho'
      have hkl := hd e he hb
      rw [hon] at hkl
      have hks : k < ops.size := List.mem_range.1 hk
      exact reaches_listed hcl m k i ops[k] (Array.getElem?_eq_getElem hks) (fun e he hb => hcl k _ hkl (Array.getElem?_eq_getElem hks) e he hb) hh.2
/-- The closed facts on a region's text: its first n operations bear no guard, wait for earlier ones alone, write slots of their own, and wait wherever one reads what another writes; those behind wait for all of them, directly or through others. -/
def wiredT (md : Region.Mode) (ops : Array Oper) (n : Nat) : Bool :=
  decide (n ≤ ops.size) && Region.noSelect ops &&
  ((List.range n).all fun i => match ops[i]? with
    | some oi => oi.guard.isNone && (oi.after.all fun e => !Region.binds md e || decide (e.on < i)) &&
      ((List.range n).all fun j => j == i || (!oneDst (dstAt ops i) (dstAt ops j) &&
        (match dstAt ops j with
          | some d => !((oi.op.operands.toList.any fun x => match x with | .tmp t => t == d | _ => false)) || (if j < i then waits md ops i j else waits md ops j i)
          | none => true)))
    | none => false) &&
  ((List.range ops.size).all fun j => decide (j < n) || (List.range n).all fun i => reaches md ops 12 j i)

structure WiredT (md : Region.Mode) (ops : Array Oper) (n : Nat) : Prop where
  le : n ≤ ops.size
  sel : Region.noSelect ops = true
  op : ∀ i, i < n → ∃ oi, ops[i]? = some oi ∧ oi.guard = none ∧ ∀ e ∈ oi.after, Region.binds md e = true → e.on < i
  dst : ∀ i j, i < n → j < n → j ≠ i → ∀ d, dstAt ops i = some d → dstAt ops j ≠ some d
  read : ∀ i j oi, i < n → j < n → j ≠ i → ops[i]? = some oi → ∀ d, dstAt ops j = some d → Operand.tmp d ∈ oi.op.operands → (if j < i then waits md ops i j else waits md ops j i) = true
  tail : ∀ j, n ≤ j → j < ops.size → ∀ i, i < n → reaches md ops 12 j i = true
theorem wiredT_spec {n : Nat} (h : wiredT md ops n = true) : WiredT md ops n := by
  unfold wiredT at h
  simp only [Bool.and_eq_true, decide_eq_true_eq, List.all_eq_true, List.mem_range, Bool.or_eq_true] at h
  obtain ⟨⟨⟨h1, h2⟩, h3⟩, h4⟩ := h
  have h3' : ∀ i, i < n → ∃ oi, ops[i]? = some oi ∧ oi.guard = none ∧ (∀ e ∈ oi.after, Region.binds md e = true → e.on < i) ∧
      ∀ j, j < n → j ≠ i → (oneDst (dstAt ops i) (dstAt ops j) = false ∧ ∀ d, dstAt ops j = some d → Operand.tmp d ∈ oi.op.operands → (if j < i then waits md ops i j else waits md ops j i) = true) := by
    intro i hi
    have := h3 i hi
    cases ho : ops[i]? with
    | none => rw [ho] at this; cases this
    | some oi =>
      rw [ho] at this
      simp only [Bool.and_eq_true, Option.isNone_iff_eq_none, Array.all_eq_true_iff_forall_mem, Bool.or_eq_true, Bool.not_eq_true', decide_eq_true_eq, List.all_eq_true, List.mem_range, beq_iff_eq] at this
      obtain ⟨⟨g1, g2⟩, g3⟩ := this
      refine ⟨oi, rfl, g1, fun e he hb => ?_, fun j hj hji => ?_⟩
      · rcases g2 e he with x | x
        · rw [x] at hb; cases hb
        · exact x
      · rcases g3 j hj with x | ⟨x1, x2⟩
        · exact absurd x hji
        · refine ⟨x1, fun d hd hmem => ?_⟩
          rw [hd] at x2
          simp only [Bool.or_eq_true, Bool.not_eq_true'] at x2
          rcases x2 with y | y
          · have : (oi.op.operands.toList.any fun x => match x with | .tmp t => t == d | _ => false) = true :=
              List.any_eq_true.2 ⟨.tmp d, by simpa using hmem, by simp⟩
            rw [this] at y; cases y
          · exact y
  refine ⟨h1, h2, fun i hi => ?_, fun i j hi hj hji d hd hd' => ?_, fun i j oi hi hj hji ho d hd hm => ?_, fun j hj hjs i hi => ?_⟩
  · obtain ⟨oi, a, b, c, _⟩ := h3' i hi; exact ⟨oi, a, b, c⟩
  · obtain ⟨oi, _, _, _, f⟩ := h3' i hi
    have := (f j hj hji).1
    rw [hd, hd'] at this
    simp [oneDst] at this
  · obtain ⟨oi', a, _, _, f⟩ := h3' i hi
    rw [ho] at a; injection a with a; subst a
    exact (f j hj hji).2 d hd hm
  · rcases h4 j hjs with x | x
    · omega
    · exact x i hi

section
variable {n : Nat} (S : (Nat → Bool) → World → Prop) (R : Nat → World → World → Prop) (φ : Nat → Value → World → Prop)
theorem region_core2 (hw : WiredT md ops n) (hφ : ∀ i j v w w', i ≠ j → φ i v w → R j w w' → φ i v w')
    (step : ∀ i oi, i < n → ops[i]? = some oi → ∀ g w L, L i = false → S L w → (∀ j, j < i → waits md ops i j = true → φ j (g j) w) →
      OpGives P oi (pre ops a0 g i).eval w (fun v w' => R i w w' ∧ φ i v w' ∧ S (fun k => if k = i then true else L k) w'))
    (fin : ∀ g w L, S L w → (∀ i, i < n → φ i (g i) w) → wpAny P md ops Q (ops.size - n) (doneN ops n) (pre ops a0 g n) w) :
    ∀ (m : Nat) (listed : Array Bool) (g : Nat → Value) (w : World), (List.range n).countP (fun j => !listed.getD j false) = m → listed.size = ops.size →
      (∀ j oj, listed.getD j false = true → ops[j]? = some oj → ∀ e ∈ oj.after, Region.binds md e = true → listed.getD e.on false = true) →
      (∀ j, n ≤ j → listed.getD j false = false) → S (fun k => listed.getD k false) w → (∀ j, j < n → listed.getD j false = true → φ j (g j) w) →
      wpAny P md ops Q (m + (ops.size - n)) listed (frL ops a0 g (fun j => listed.getD j false) n) w := by
  intro m
  induction m with
  | zero =>
    intro listed g w hc hsz hcl htl hSw hph
    have hall : ∀ j, j < n → listed.getD j false = true := fun j hj => by
      have := count_zero _ n hc j hj; simpa using this
    have hl : listed = doneN ops n := by
      apply Array.ext
      · simp [doneN, hsz]
      · intro j h1 h2
        have e : listed[j] = listed.getD j false := by simp [h1]
        rw [e]
        simp only [doneN, List.getElem_toArray, List.getElem_map, List.getElem_range]
        by_cases hj : j < n
        · simp [hall j hj, hj]
        · rw [htl j (by omega)]; simp [hj]
    rw [frL_all g _ n hall, Nat.zero_add]
    subst hl
    exact fin g w _ hSw (fun i hi => hph i hi (hall i hi))
  | succ m ih =>
    intro listed g w hc hsz hcl htl hSw hph
    rw [show m + 1 + (ops.size - n) = (m + (ops.size - n)) + 1 by omega]
    -- some operation may come up: the first that is not listed
    have hex : ∃ i, i < n ∧ listed.getD i false = false := by
      apply Classical.byContradiction
      intro hno
      have : (List.range n).countP (fun j => !listed.getD j false) = 0 := by
        rw [List.countP_eq_zero]
        intro j hj
        have hj' := List.mem_range.1 hj
        cases hl : listed.getD j false with
        | true => simp
        | false => exact absurd ⟨j, hj', hl⟩ hno
      omega
    have hunl : ∀ j, j < ops.size → (listed.getD j true = false ↔ listed.getD j false = false) := fun j hj => by simp [hsz, hj]
    have hne : Region.ready md ops listed ≠ [] := by
      intro h0
      obtain ⟨i, hi, hl⟩ := hex
      have key : ∀ d i, i = d → i < n → listed.getD i false = false → False := by
        intro d
        induction d using Nat.strongRecOn with
        | _ d ihd =>
          intro i hid hi hl
          obtain ⟨oi, ho, _, hdep⟩ := hw.op i hi
          have : i ∈ Region.ready md ops listed := mem_ready.2 ⟨(hunl i (by have := hw.le; omega)).2 hl, oi, ho, fun e he hb => by
            have hlt := hdep e he hb
            cases hx : listed.getD e.on false with
            | true => rfl
            | false => exact (ihd e.on (by omega) e.on rfl (by omega) hx).elim⟩
          rw [h0] at this; cases this
      exact key i i rfl hi hl
    refine ⟨fun h0 => absurd h0 hne, fun j hj => ?_⟩
    obtain ⟨hjun, oj, hoj, hdeps⟩ := mem_ready.1 hj
    have hjs : j < ops.size := (Array.getElem?_eq_some_iff.1 hoj).1
    have hjl := (hunl j hjs).1 hjun
    have hjn : j < n := by
      rcases Nat.lt_or_ge j n with h | h
      · exact h
      · obtain ⟨i, hi, hl⟩ := hex
        have := reaches_listed hcl 12 j i oj hoj hdeps (hw.tail j h hjs i hi)
        rw [hl] at this; cases this
    obtain ⟨oj2, ho2, hguard, _⟩ := hw.op j hjn
    rw [hoj] at ho2; injection ho2 with ho2; subst ho2
    -- the frame reads as the one in the text's order
    have hread : execOp (frL ops a0 g (fun j => listed.getD j false) n).eval oj = execOp (pre ops a0 g j).eval oj := by
      rw [← frL_pre (ops := ops) (a0 := a0) g j n (by omega)]
      refine execOp_congr oj (fun cs b => Region.noSelect_spec hw.sel j oj cs b hoj) (fun x hx => ?_)
      cases x with
      | tmp t =>
        refine frL_agree g _ _ t n (fun k hk hdk => ?_)
        by_cases hkj : k = j
        · subst hkj; simp [hjl]
        · have := hw.read j k oj hjn hk hkj hoj t hdk hx
          by_cases hlt : k < j
          · rw [if_pos hlt] at this
            obtain ⟨o', ho', e, he, hb, hon⟩ := waits_spec this
            rw [hoj] at ho'; injection ho' with ho'; subst ho'
            have h2 := hdeps e he hb
            rw [hon] at h2
            simp only [h2, decide_eq_true hlt]
          · rw [if_neg hlt] at this
            obtain ⟨o', ho', e, he, hb, hon⟩ := waits_spec this
            have hnl : listed.getD k false = false := by
              cases hx : listed.getD k false with
              | false => rfl
              | true =>
                have := hcl k o' hx ho' e he hb
                rw [hon, hjl] at this; cases this
            simp only [hnl, decide_eq_false hlt]
      | _ => rfl
    have hdst : oj.dst = dstAt ops j := by simp [dstAt, hoj]
    have hst := step j oj hjn hoj g w _ hjl hSw (fun k hk hwk => by
      obtain ⟨o', ho', e, he, hb, hon⟩ := waits_spec hwk
      rw [hoj] at ho'; injection ho' with ho'; subst ho'
      have h2 := hdeps e he hb
      rw [hon] at h2
      exact hph k (by omega) h2)
    refine OpGives.wpOp hoj hguard ?_
    unfold OpGives at hst ⊢
    rw [hread]
    refine OpGives.mono (o := oj) (ρ := (pre ops a0 g j).eval) hst (fun v w' ⟨hR, hphv, hSn⟩ => ?_)
    have hL : ∀ k, (listed.setIfInBounds j true).getD k false = if k = j then true else listed.getD k false := fun k => by
      by_cases hk : k = j
      · subst hk; simp [hsz, hjs]
      · simp only [hk, if_false]; exact getD_set_ne false (fun x => hk x.symm)
    have hfr : (frL ops a0 g (fun j => listed.getD j false) n).put oj.dst v = frL ops a0 (upd g j v) (fun k => (listed.setIfInBounds j true).getD k false) n := by
      rw [hdst]
      refine (frL_upd n g _ _ j v hjl (by simp [hL]) (fun k hk => by simp [hL, hk]) (fun k hk hkj d hd => hw.dst j k hjn hk hkj d hd) n (Nat.le_refl _) hjn).symm
    rw [hfr]
    refine ih (listed.setIfInBounds j true) (upd g j v) w' ?_ (by simp [hsz]) ?_ ?_ (by rw [show (fun k => (listed.setIfInBounds j true).getD k false) = (fun k => if k = j then true else listed.getD k false) from funext hL]; exact hSn) ?_
    · have := count_step (fun k => !listed.getD k false) (fun k => !(listed.setIfInBounds j true).getD k false) j (by simp [hjl]) (by simp [hL]) (fun k hk => by simp [hL, hk]) n hjn
      omega
    · intro k ok hk hok e he hb
      rw [hL] at hk ⊢
      by_cases hkj : k = j
      · subst hkj
        rw [hoj] at hok; injection hok with hok; subst hok
        split
        · rfl
        · exact hdeps e he hb
      · rw [if_neg hkj] at hk
        split
        · rfl
        · exact hcl k ok hk hok e he hb
    · intro k hk
      rw [hL, if_neg (by omega)]; exact htl k hk
    · intro k hk hl
      by_cases hkj : k = j
      · subst hkj; rw [upd_same]; exact hphv
      · rw [upd_other g v hkj]
        rw [hL, if_neg hkj] at hl
        exact hφ _ _ _ _ _ hkj (hph k hk hl) hR

end

/-- The d-th operation by R, all others by R0. -/
def Rsel (d : Nat) (R R0 : World → World → Prop) (i : Nat) : World → World → Prop := if i = d then R else R0
theorem rsel_ne {d i : Nat} {R R0 : World → World → Prop} (h : i ≠ d) : Rsel d R R0 i = R0 := if_neg h
theorem rsel_eq {d : Nat} {R R0 : World → World → Prop} : Rsel d R R0 d = R := if_pos rfl

/-- One obligation for each operation, in the order of the text. -/
def StepsD (P : Program) (ops : Array Oper) (a0 : Act) (d : Nat) (S A : World → Prop) (R R0 : World → World → Prop) (pd : Value → World → Prop) (all : List (Fact R)) : Nat → List Oper → List (Fact R) → Prop
  | _, [], [] => True
  | i, o :: os, f :: fs => (∀ (g : Nat → Value) (w : World), S w → (i = d → A w) → (∀ j, j < i → waits .any ops i j = true → factP all j (g j) w) →
      OpGives P o (pre ops a0 g i).eval w (fun v w' => Rsel d R R0 i w w' ∧ f.p v w' ∧ (i = d → pd v w'))) ∧ StepsD P ops a0 d S A R R0 pd all (i + 1) os fs
  | _, _, _ => False
variable {d : Nat} {S A : World → Prop} {R R0 : World → World → Prop} {pd : Value → World → Prop} {all : List (Fact R)}
theorem stepsD_nil {i : Nat} : StepsD P ops a0 d S A R R0 pd all i [] [] := trivial
theorem stepsD_cons {i : Nat} {o : Oper} {os : List Oper} {f : Fact R} {fs : List (Fact R)}
    (h : ∀ (g : Nat → Value) (w : World), S w → (i = d → A w) → (∀ j, j < i → waits .any ops i j = true → factP all j (g j) w) → OpGives P o (pre ops a0 g i).eval w (fun v w' => Rsel d R R0 i w w' ∧ f.p v w' ∧ (i = d → pd v w')))
    (rest : StepsD P ops a0 d S A R R0 pd all (i + 1) os fs) : StepsD P ops a0 d S A R R0 pd all i (o :: os) (f :: fs) := ⟨h, rest⟩
theorem stepsD_get : ∀ (os : List Oper) (fs : List (Fact R)) (k : Nat), StepsD P ops a0 d S A R R0 pd all k os fs →
    ∀ i o, os[i]? = some o → ∃ f, fs[i]? = some f ∧ (∀ (g : Nat → Value) (w : World), S w → (k + i = d → A w) → (∀ j, j < k + i → waits .any ops (k + i) j = true → factP all j (g j) w) →
      OpGives P o (pre ops a0 g (k + i)).eval w (fun v w' => Rsel d R R0 (k + i) w w' ∧ f.p v w' ∧ (k + i = d → pd v w')))
  | [], _, _, _, i, o, h => by simp at h
  | o :: os, [], _, hs, _, _, _ => by simp [StepsD] at hs
  | o :: os, f :: fs, k, hs, i, o', h => by
    cases i with
    | zero =>
      simp at h; subst h
      exact ⟨f, rfl, hs.1⟩
    | succ i =>
      obtain ⟨f', hf, hx⟩ := stepsD_get os fs (k + 1) hs.2 i o' (by simpa using h)
      refine ⟨f', by simpa using hf, ?_⟩
      have e : k + 1 + i = k + (i + 1) := by omega
      rw [e] at hx
      exact hx
theorem OpGives.ne {o : Oper} {ρ : Operand → Value} {w : World} {i : Nat} {f : Fact R} (hid : i ≠ d) (h : OpGives P o ρ w (fun v w' => R0 w w' ∧ f.p v w')) :
    OpGives P o ρ w (fun v w' => Rsel d R R0 i w w' ∧ f.p v w' ∧ (i = d → pd v w')) :=
  h.mono fun v w' ⟨h1, h2⟩ => ⟨by rw [rsel_ne hid]; exact h1, h2, fun e => absurd e hid⟩
theorem OpGives.eqd {o : Oper} {ρ : Operand → Value} {w : World} {f : Fact R} (h : OpGives P o ρ w (fun v w' => R w w' ∧ f.p v w' ∧ pd v w')) :
    OpGives P o ρ w (fun v w' => Rsel d R R0 d w w' ∧ f.p v w' ∧ (d = d → pd v w')) :=
  h.mono fun v w' ⟨h1, h2, h3⟩ => ⟨by rw [rsel_eq]; exact h1, h2, fun _ => h3⟩
/-- Nothing is known. -/
def noF (R : World → World → Prop) : Fact R := ⟨fun _ _ => True, fun _ _ _ _ _ => trivial⟩
/-- THE REGION, its facts in a list; the operation d may end what A says. -/
theorem wp_region_factsD {id : Nat} {w : World} (d : Nat) {S A : World → Prop} {R R0 : World → World → Prop} {pd : Value → World → Prop} (fs : List (Fact R)) (hm : P.follows .mixedOrders = true) (hw : wiredT .any ops fs.length = true)
    (hS : ∀ w w', S w → R w w' → S w') (hA : ∀ w w', A w → R0 w w' → A w') (hR : ∀ w w', R0 w w' → R w w') (hpd : ∀ v w w', pd v w → R0 w w' → pd v w') (h0 : S w.drew ∧ A w.drew) (steps : StepsD P ops a0 d S A R R0 pd fs 0 (ops.toList.take fs.length) fs)
    (fin : ∀ g w, S w → (∀ i, i < fs.length → factP fs i (g i) w) → (d < fs.length → pd (g d) w) → wpAny P .any ops Q (ops.size - fs.length) (doneN ops fs.length) (pre ops a0 g fs.length) w) :
    (Code.region id ops true).wp P Q a0 w := by
  refine wp_region_any hm ?_
  have hW := wiredT_spec hw
  have hf : ∀ j, (Array.replicate ops.size false).getD j false = false := fun j => by
    rcases Nat.lt_or_ge j ops.size with h | h <;> simp [h]
  have hRR : ∀ i w w', Rsel d R R0 i w w' → R w w' := fun i w w' h => by
    by_cases e : i = d
    · subst e; rwa [rsel_eq] at h
    · rw [rsel_ne e] at h; exact hR _ _ h
  have h := region_core2 (Q := Q) (a0 := a0) (fun L w => S w ∧ (L d = false → A w)) (Rsel d R R0) (fun i v w => factP fs i v w ∧ (i = d → pd v w)) hW
    (fun i j v w w' hij h hRs => by
      refine ⟨?_, fun e => ?_⟩
      · have h1 := h.1
        unfold factP at *
        split
        · rename_i f hf; rw [hf] at h1; exact f.st _ _ _ h1 (hRR _ _ _ hRs)
        · trivial
      · rw [rsel_ne (fun x => hij (by rw [e, x]))] at hRs
        exact hpd _ _ _ (h.2 e) hRs)
    (fun i oi hi ho g w L hLi hSw hd => by
      obtain ⟨f, hf, hx⟩ := stepsD_get _ _ 0 steps i oi (by rw [List.getElem?_take, if_pos hi]; simpa using ho)
      have := hx g w hSw.1 (fun e => hSw.2 (by rw [Nat.zero_add] at e; rw [← e]; exact hLi)) (fun j hj hw => (hd j (by omega) (by simpa using hw)).1)
      rw [Nat.zero_add] at this
      refine this.mono fun v w' ⟨hRs, hp, hq⟩ => ?_
      refine ⟨hRs, ⟨by unfold factP; rw [hf]; exact hp, hq⟩, hS _ _ hSw.1 (hRR _ _ _ hRs), fun hl => ?_⟩
      simp only at hl
      by_cases e : d = i
      · rw [if_pos e] at hl; cases hl
      · rw [if_neg e] at hl
        rw [rsel_ne (fun x => e x.symm)] at hRs
        exact hA _ _ (hSw.2 hl) hRs)
    (fun g w L hSw hp => fin g w hSw.1 (fun i hi => (hp i hi).1) (fun hd => (hp d hd).2 rfl)) fs.length (Array.replicate ops.size false) (fun _ => undef) w.drew
    (by rw [List.countP_eq_length.2]; · simp
        · intro j _; simp only [hf]; rfl) (by simp) (fun j oj hj => by rw [hf] at hj; cases hj) (fun j _ => hf j) ⟨h0.1, fun _ => h0.2⟩ (fun j _ hj => by rw [hf] at hj; cases hj)
  have e1 : fs.length + (ops.size - fs.length) = ops.size := by have := hW.le; omega
  rw [e1] at h
  have e2 : ∀ m, frL ops a0 (fun _ => undef) (fun j => (Array.replicate ops.size false).getD j false) m = a0 := by
    intro m
    induction m with
    | zero => rfl
    | succ m ihm => unfold frL; rw [hf, ihm]; simp
  rw [e2] at h
  exact h
theorem stepsD_of : ∀ (os : List Oper) (fs : List (Fact R)) (i : Nat), d = i + fs.length → Steps P ops a0 S R all i os fs → StepsD P ops a0 d S (fun _ => True) R R (fun _ _ => True) all i os fs
  | [], [], _, _, _ => trivial
  | [], _ :: _, _, _, h => h
  | _ :: _, [], _, _, h => h
  | o :: os, f :: fs, i, hd, h => ⟨fun g w hS _ hj => (h.1 g w hS hj).mono fun v w' ⟨h1, h2⟩ => ⟨by rw [rsel_ne (by simp at hd; omega)]; exact h1, h2, fun _ => trivial⟩, stepsD_of os fs (i + 1) (by simp at hd ⊢; omega) h.2⟩
/-- The region, its facts in a list; waiting through others is taken in. -/
theorem wp_region_factsT {id : Nat} {w : World} {S : World → Prop} {R : World → World → Prop} (fs : List (Fact R)) (hm : P.follows .mixedOrders = true) (hw : wiredT .any ops fs.length = true)
    (hS : ∀ w w', S w → R w w' → S w') (h0 : S w.drew) (steps : Steps P ops a0 S R fs 0 (ops.toList.take fs.length) fs)
    (fin : ∀ g w, S w → (∀ i, i < fs.length → factP fs i (g i) w) → wpAny P .any ops Q (ops.size - fs.length) (doneN ops fs.length) (pre ops a0 g fs.length) w) :
    (Code.region id ops true).wp P Q a0 w :=
  wp_region_factsD fs.length (A := fun _ => True) (R0 := R) (pd := fun _ _ => True) fs hm hw hS (fun _ _ _ _ => trivial) (fun _ _ h => h) (fun _ _ _ _ _ => trivial) ⟨h0, trivial⟩ (stepsD_of _ _ 0 (by omega) steps) (fun g w hs hf _ => fin g w hs hf)
end
end Go.Proofs.Ytjelpapcboiimaa.Ord
