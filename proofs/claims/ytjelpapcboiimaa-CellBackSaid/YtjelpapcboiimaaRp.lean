/- A region that draws its order and in which a call may panic. Over any program. -/
import Derived.Test.YtjelpapcboiimaaRm
namespace Go.Proofs.Ytjelpapcboiimaa.Ord
section
variable {P : Program} {ops : Array Oper} {Q : Exit → Act → World → Prop} {md : Region.Mode} {a0 : Act}
/-- The operation is a call that panics. -/
def OpBad (P : Program) (o : Oper) (ρ : Operand → Value) (w : World) (B : List PanicEntry → World → Prop) : Prop :=
  match (execOp ρ o).run P w with
  | .ok (.enter f args) w' => Calls P f args w' fun e w'' => ∃ ch, e = .panicked ch ∧ B ch w''
  | _ => False
theorem OpBad.mono {o : Oper} {ρ : Operand → Value} {w : World} {B B' : List PanicEntry → World → Prop} (h : OpBad P o ρ w B) (hk : ∀ v w, B v w → B' v w) : OpBad P o ρ w B' := by
  unfold OpBad at *
  split at h
  · exact h.mono fun e w'' ⟨ch, he, hb⟩ => ⟨ch, he, hk _ _ hb⟩
  · exact h.elim
theorem OpBad.wpOp {i : Nat} {o : Oper} {K : Act → World → Prop} {a : Act} {w : World} (hi : ops[i]? = some o) (hg : o.guard = none)
    (h : OpBad P o a.eval w fun ch w' => Q (.panic ch) a w') : Go.wpOp P ops Q i K a w := by
  unfold Go.wpOp; rw [hi]; simp only [Region.wanted, hg, if_true]
  refine .inl ?_
  unfold Oper.wp
  unfold OpBad at h
  split at h
  · rename_i heq
    rw [heq]
    exact h.mono fun e w'' ⟨ch, he, hb⟩ => by subst he; exact hb
  · exact h.elim
theorem OpBad.call {o : Oper} {ρ : Operand → Value} {w w' : World} {f : FuncId} {args : Array Value} {B : List PanicEntry → World → Prop} (hr : (execOp ρ o).run P w = .ok (.enter f args) w')
    (hk : Calls P f args w' fun e w'' => ∃ ch, e = .panicked ch ∧ B ch w'') : OpBad P o ρ w B := by
  unfold OpBad; rw [hr]; exact hk
theorem OpBad.pre_reads {o : Oper} {g : Nat → Value} {i : Nat} {w : World} {B : List PanicEntry → World → Prop} (l : List (Tmp × Nat)) (sz : Nat) (hsz : a0.tmps.size = sz) (hok : okReads ops i o l sz = true)
    (hg : OpBad P o (rdl a0 (l.map fun x => (x.1, g x.2))) w B) : OpBad P o (pre ops a0 g i).eval w B := by
  unfold okReads at hok
  rw [Bool.and_eq_true] at hok
  obtain ⟨h1, h2⟩ := hok
  have hs : ∀ cs b, o.op ≠ .select cs b := fun cs b h => by rw [h] at h1; cases h1
  have hm : o.op.operands.toList.map (pre ops a0 g i).eval = o.op.operands.toList.map (rdl a0 (l.map fun x => (x.1, g x.2))) := by
    refine List.map_congr_left (fun x hx => ?_)
    have h3 := List.all_eq_true.1 h2 x hx
    cases x with
    | tmp t =>
      simp only [Bool.and_eq_true, decide_eq_true_eq] at h3
      rw [pre_eval g t (by rw [hsz]; exact h3.1)]
      simp only [rdl, lookup_map]
      cases hl : lastW ops t i with
      | none => rw [hl] at h3; simp only [Option.isNone_iff_eq_none] at h3; rw [h3.2]; rfl
      | some j => rw [hl] at h3; simp only [beq_iff_eq] at h3; rw [h3.2]; rfl
    | const v => induction i with | zero => rfl | succ i ih => rfl
    | global v => induction i with | zero => rfl | succ i ih => rfl
    | func v => induction i with | zero => rfl | succ i ih => rfl
  unfold OpBad at *
  rw [execOp_congr o hs (ρ := (pre ops a0 g i).eval) (ρ' := rdl a0 (l.map fun x => (x.1, g x.2))) (fun x hx => List.map_inj_left.1 hm x (by simpa using hx))]
  exact hg
theorem frL_defers (g : Nat → Value) (L : Nat → Bool) : ∀ m, (frL ops a0 g L m).defers = a0.defers
  | 0 => rfl
  | m + 1 => by
    unfold frL
    split
    · simp only [Act.put]; split <;> exact frL_defers g L m
    · exact frL_defers g L m
section
variable {n : Nat} (S : (Nat → Bool) → World → Prop) (R : Nat → World → World → Prop) (φ : Nat → Value → World → Prop)
theorem region_core4 (hw : WiredT md ops n) (hφ : ∀ i j v w w', i ≠ j → φ i v w → R j w w' → φ i v w')
    (step : ∀ i oi, i < n → ops[i]? = some oi → ∀ g w L, L i = false → S L w → (∀ j, j < i → waits md ops i j = true → φ j (g j) w) →
      OpGives P oi (pre ops a0 g i).eval w (fun v w' => R i w w' ∧ φ i v w' ∧ S (fun k => if k = i then true else L k) w') ∨ OpBad P oi (pre ops a0 g i).eval w (fun ch w' => ∀ a, a.defers = a0.defers → Q (.panic ch) a w'))
    (fin : ∀ g w L, (∀ i, i < n → L i = true) → S L w → (∀ i, i < n → φ i (g i) w) → wpAny P md ops Q (ops.size - n) (doneN ops n) (pre ops a0 g n) w) :
    ∀ (m : Nat) (listed : Array Bool) (g : Nat → Value) (w : World), (List.range n).countP (fun j => !listed.getD j false) = m → listed.size = ops.size →
      (∀ j oj, listed.getD j false = true → ops[j]? = some oj → ∀ e ∈ oj.after, Region.binds md e = true → listed.getD e.on false = true) →
      (∀ j, n ≤ j → listed.getD j false = false) → S (fun k => listed.getD k false) w → (∀ j, j < n → listed.getD j false = true → φ j (g j) w) →
      wpAny P md ops Q (m + (ops.size - n)) listed (frL ops a0 g (fun j => listed.getD j false) n) w := by
  intro m
  induction m with
  | zero =>
    intro listed g w hc hsz hcl htl hSw hph
    have hall : ∀ j, j < n → listed.getD j false = true := fun j hj => by
      have := count_zero _ n hc j hj; simpa using this
    have hl : listed = doneN ops n := by
      apply Array.ext
      · simp [doneN, hsz]
      · intro j h1 h2
        have e : listed[j] = listed.getD j false := by simp [h1]
        rw [e]
        simp only [doneN, List.getElem_toArray, List.getElem_map, List.getElem_range]
        by_cases hj : j < n
        · simp [hall j hj, hj]
        · rw [htl j (by omega)]; simp [hj]
    rw [frL_all g _ n hall, Nat.zero_add]
    subst hl
    exact fin g w _ (fun i hi => hall i hi) hSw (fun i hi => hph i hi (hall i hi))
  | succ m ih =>
    intro listed g w hc hsz hcl htl hSw hph
    rw [show m + 1 + (ops.size - n) = (m + (ops.size - n)) + 1 by omega]
    -- some operation may come up: the first that is not listed
    have hex : ∃ i, i < n ∧ listed.getD i false = false := by
      apply Classical.byContradiction
      intro hno
      have : (List.range n).countP (fun j => !listed.getD j false) = 0 := by
        rw [List.countP_eq_zero]
        intro j hj
        have hj' := List.mem_range.1 hj
        cases hl : listed.getD j false with
        | true => simp
        | false => exact absurd ⟨j, hj', hl⟩ hno
      omega
    have hunl : ∀ j, j < ops.size → (listed.getD j true = false ↔ listed.getD j false = false) := fun j hj => by simp [hsz, hj]
    have hne : Region.ready md ops listed ≠ [] := by
      intro h0
      obtain ⟨i, hi, hl⟩ := hex
      have key : ∀ d i, i = d → i < n → listed.getD i false = false → False := by
        intro d
        induction d using Nat.strongRecOn with
        | _ d ihd =>
          intro i hid hi hl
          obtain ⟨oi, ho, _, hdep⟩ := hw.op i hi
          have : i ∈ Region.ready md ops listed := mem_ready.2 ⟨(hunl i (by have := hw.le; omega)).2 hl, oi, ho, fun e he hb => by
            have hlt := hdep e he hb
            cases hx : listed.getD e.on false with
            | true => rfl
            | false => exact (ihd e.on (by omega) e.on rfl (by omega) hx).elim⟩
          rw [h0] at this; cases this
      exact key i i rfl hi hl
    refine ⟨fun h0 => absurd h0 hne, fun j hj => ?_⟩
    obtain ⟨hjun, oj, hoj, hdeps⟩ := mem_ready.1 hj
    have hjs : j < ops.size := (Array.getElem?_eq_some_iff.1 hoj).1
    have hjl := (hunl j hjs).1 hjun
    have hjn : j < n := by
      rcases Nat.lt_or_ge j n with h | h
      · exact h
      · obtain ⟨i, hi, hl⟩ := hex
        have := reaches_listed hcl 12 j i oj hoj hdeps (hw.tail j h hjs i hi)
        rw [hl] at this; cases this
    obtain ⟨oj2, ho2, hguard, _⟩ := hw.op j hjn
    rw [hoj] at ho2; injection ho2 with ho2; subst ho2
    -- the frame reads as the one in the text's order
    have hread : execOp (frL ops a0 g (fun j => listed.getD j false) n).eval oj = execOp (pre ops a0 g j).eval oj := by
      rw [← frL_pre (ops := ops) (a0 := a0) g j n (by omega)]
      refine execOp_congr oj (fun cs b => Region.noSelect_spec hw.sel j oj cs b hoj) (fun x hx => ?_)
      cases x with
      | tmp t =>
        refine frL_agree g _ _ t n (fun k hk hdk => ?_)
        by_cases hkj : k = j
        · subst hkj; simp [hjl]
        · have := hw.read j k oj hjn hk hkj hoj t hdk hx
          by_cases hlt : k < j
          · rw [if_pos hlt] at this
            obtain ⟨o', ho', e, he, hb, hon⟩ := waits_spec this
            rw [hoj] at ho'; injection ho' with ho'; subst ho'
            have h2 := hdeps e he hb
            rw [hon] at h2
            simp only [h2, decide_eq_true hlt]
          · rw [if_neg hlt] at this
            obtain ⟨o', ho', e, he, hb, hon⟩ := waits_spec this
            have hnl : listed.getD k false = false := by
              cases hx : listed.getD k false with
              | false => rfl
              | true =>
                have := hcl k o' hx ho' e he hb
                rw [hon, hjl] at this; cases this
            simp only [hnl, decide_eq_false hlt]
      | _ => rfl
    have hdst : oj.dst = dstAt ops j := by simp [dstAt, hoj]
    have hst := step j oj hjn hoj g w _ hjl hSw (fun k hk hwk => by
      obtain ⟨o', ho', e, he, hb, hon⟩ := waits_spec hwk
      rw [hoj] at ho'; injection ho' with ho'; subst ho'
      have h2 := hdeps e he hb
      rw [hon] at h2
      exact hph k (by omega) h2)
    rcases hst with hst | hst
    case inr =>
      refine OpBad.wpOp hoj hguard ?_
      unfold OpBad at hst ⊢
      rw [hread]
      refine OpBad.mono (o := oj) (ρ := (pre ops a0 g j).eval) hst (fun ch w' hb => hb _ (frL_defers _ _ _))
    refine OpGives.wpOp hoj hguard ?_
    unfold OpGives at hst ⊢
    rw [hread]
    refine OpGives.mono (o := oj) (ρ := (pre ops a0 g j).eval) hst (fun v w' ⟨hR, hphv, hSn⟩ => ?_)
    have hL : ∀ k, (listed.setIfInBounds j true).getD k false = if k = j then true else listed.getD k false := fun k => by
      by_cases hk : k = j
      · subst hk; simp [hsz, hjs]
      · simp only [hk, if_false]; exact getD_set_ne false (fun x => hk x.symm)
    have hfr : (frL ops a0 g (fun j => listed.getD j false) n).put oj.dst v = frL ops a0 (upd g j v) (fun k => (listed.setIfInBounds j true).getD k false) n := by
      rw [hdst]
      refine (frL_upd n g _ _ j v hjl (by simp [hL]) (fun k hk => by simp [hL, hk]) (fun k hk hkj d hd => hw.dst j k hjn hk hkj d hd) n (Nat.le_refl _) hjn).symm
    rw [hfr]
    refine ih (listed.setIfInBounds j true) (upd g j v) w' ?_ (by simp [hsz]) ?_ ?_ (by rw [show (fun k => (listed.setIfInBounds j true).getD k false) = (fun k => if k = j then true else listed.getD k false) from funext hL]; exact hSn) ?_
    · have := count_step (fun k => !listed.getD k false) (fun k => !(listed.setIfInBounds j true).getD k false) j (by simp [hjl]) (by simp [hL]) (fun k hk => by simp [hL, hk]) n hjn
      omega
    · intro k ok hk hok e he hb
      rw [hL] at hk ⊢
      by_cases hkj : k = j
      · subst hkj
        rw [hoj] at hok; injection hok with hok; subst hok
        split
        · rfl
        · exact hdeps e he hb
      · rw [if_neg hkj] at hk
        split
        · rfl
        · exact hcl k ok hk hok e he hb
    · intro k hk
      rw [hL, if_neg (by omega)]; exact htl k hk
    · intro k hk hl
      by_cases hkj : k = j
      · subst hkj; rw [upd_same]; exact hphv
      · rw [upd_other g v hkj]
        rw [hL, if_neg hkj] at hl
        exact hφ _ _ _ _ _ hkj (hph k hk hl) hR

end
/-- One obligation for each operation, in the order of the text. -/
def StepsP (P : Program) (ops : Array Oper) (Q : Exit → Act → World → Prop) (a0 : Act) (S : (Nat → Bool) → World → Prop) (R : Nat → World → World → Prop) (all : List (Value → World → Prop)) : Nat → List Oper → List (Value → World → Prop) → Prop
  | _, [], [] => True
  | i, o :: os, f :: fs => (∀ (g : Nat → Value) (w : World) (L : Nat → Bool), L i = false → S L w → (∀ j, j < i → waits .any ops i j = true → factM all j (g j) w) →
      OpGives P o (pre ops a0 g i).eval w (fun v w' => R i w w' ∧ f v w' ∧ S (fun k => if k = i then true else L k) w') ∨ OpBad P o (pre ops a0 g i).eval w (fun ch w' => ∀ a, a.defers = a0.defers → Q (.panic ch) a w')) ∧ StepsP P ops Q a0 S R all (i + 1) os fs
  | _, _, _ => False
variable {S : (Nat → Bool) → World → Prop} {R : Nat → World → World → Prop} {all : List (Value → World → Prop)}
theorem stepsP_nil {i : Nat} : StepsP P ops Q a0 S R all i [] [] := trivial
theorem stepsP_cons {i : Nat} {o : Oper} {os : List Oper} {f : Value → World → Prop} {fs : List (Value → World → Prop)}
    (h : ∀ (g : Nat → Value) (w : World) (L : Nat → Bool), L i = false → S L w → (∀ j, j < i → waits .any ops i j = true → factM all j (g j) w) → OpGives P o (pre ops a0 g i).eval w (fun v w' => R i w w' ∧ f v w' ∧ S (fun k => if k = i then true else L k) w'))
    (rest : StepsP P ops Q a0 S R all (i + 1) os fs) : StepsP P ops Q a0 S R all i (o :: os) (f :: fs) := ⟨fun g w L a b d => .inl (h g w L a b d), rest⟩
theorem stepsP_bad {i : Nat} {o : Oper} {os : List Oper} {f : Value → World → Prop} {fs : List (Value → World → Prop)}
    (h : ∀ (g : Nat → Value) (w : World) (L : Nat → Bool), L i = false → S L w → (∀ j, j < i → waits .any ops i j = true → factM all j (g j) w) → OpBad P o (pre ops a0 g i).eval w (fun ch w' => ∀ a, a.defers = a0.defers → Q (.panic ch) a w'))
    (rest : StepsP P ops Q a0 S R all (i + 1) os fs) : StepsP P ops Q a0 S R all i (o :: os) (f :: fs) := ⟨fun g w L a b d => .inr (h g w L a b d), rest⟩
theorem stepsP_get : ∀ (os : List Oper) (fs : List (Value → World → Prop)) (k : Nat), StepsP P ops Q a0 S R all k os fs →
    ∀ i o, os[i]? = some o → ∃ f, fs[i]? = some f ∧ (∀ (g : Nat → Value) (w : World) (L : Nat → Bool), L (k + i) = false → S L w → (∀ j, j < k + i → waits .any ops (k + i) j = true → factM all j (g j) w) →
      OpGives P o (pre ops a0 g (k + i)).eval w (fun v w' => R (k + i) w w' ∧ f v w' ∧ S (fun x => if x = k + i then true else L x) w') ∨ OpBad P o (pre ops a0 g (k + i)).eval w (fun ch w' => ∀ a, a.defers = a0.defers → Q (.panic ch) a w'))
  | [], _, _, _, i, o, h => by simp at h
  | o :: os, [], _, hs, _, _, _ => by simp [StepsP] at hs
  | o :: os, f :: fs, k, hs, i, o', h => by
    cases i with
    | zero =>
      simp at h; subst h
      exact ⟨f, rfl, hs.1⟩
    | succ i =>
      obtain ⟨f', hf, hx⟩ := stepsP_get os fs (k + 1) hs.2 i o' (by simpa using h)
      refine ⟨f', by simpa using hf, ?_⟩
      have e : k + 1 + i = k + (i + 1) := by omega
      rw [e] at hx
      exact hx
/-- THE REGION: what holds hangs on which operations are over. -/
theorem wp_region_factsP {id : Nat} {w : World} {S : (Nat → Bool) → World → Prop} (R : Nat → World → World → Prop) (fs : List (Value → World → Prop)) (hm : P.follows .mixedOrders = true) (hw : wiredT .any ops fs.length = true)
    (hst : ∀ i j v w w', i ≠ j → factM fs i v w → R j w w' → factM fs i v w') (h0 : S (fun _ => false) w.drew) (steps : StepsP P ops Q a0 S R fs 0 (ops.toList.take fs.length) fs)
    (fin : ∀ g w L, (∀ i, i < fs.length → L i = true) → S L w → (∀ i, i < fs.length → factM fs i (g i) w) → wpAny P .any ops Q (ops.size - fs.length) (doneN ops fs.length) (pre ops a0 g fs.length) w) :
    (Code.region id ops true).wp P Q a0 w := by
  refine wp_region_any hm ?_
  have hW := wiredT_spec hw
  have hf : ∀ j, (Array.replicate ops.size false).getD j false = false := fun j => by
    rcases Nat.lt_or_ge j ops.size with h | h <;> simp [h]
  have h := region_core4 (Q := Q) (a0 := a0) (fun L w => S L w) R (factM fs) hW
    hst
    (fun i oi hi ho g w L hLi hSw hd => by
      obtain ⟨f, hf, hx⟩ := stepsP_get _ _ 0 steps i oi (by rw [List.getElem?_take, if_pos hi]; simpa using ho)
      have := hx g w L (by rw [Nat.zero_add]; exact hLi) hSw (fun j hj hw => hd j (by omega) (by simpa using hw))
      simp only [Nat.zero_add] at this
      exact this.elim (fun x => .inl (x.mono fun v w' ⟨hr, hp, hs⟩ => ⟨hr, by unfold factM; rw [hf]; exact hp, hs⟩)) .inr)
    (fun g w L hL hSw hp => fin g w L hL hSw hp) fs.length (Array.replicate ops.size false) (fun _ => undef) w.drew
    (by rw [List.countP_eq_length.2]; · simp
        · intro j _; simp only [hf]; rfl) (by simp) (fun j oj hj => by rw [hf] at hj; cases hj) (fun j _ => hf j) (by rw [show (fun k => (Array.replicate ops.size false).getD k false) = fun _ => false from funext hf]; exact h0) (fun j _ hj => by rw [hf] at hj; cases hj)
  have e1 : fs.length + (ops.size - fs.length) = ops.size := by have := hW.le; omega
  rw [e1] at h
  have e2 : ∀ m, frL ops a0 (fun _ => undef) (fun j => (Array.replicate ops.size false).getD j false) m = a0 := by
    intro m
    induction m with
    | zero => rfl
    | succ m ihm => unfold frL; rw [hf, ihm]; simp
  rw [e2] at h
  exact h
end
end Go.Proofs.Ytjelpapcboiimaa.Ord
