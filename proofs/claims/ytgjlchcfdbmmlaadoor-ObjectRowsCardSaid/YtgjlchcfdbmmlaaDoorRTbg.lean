/- Texts of one proof, joined: Rp, TI, TH. -/
import Derived.Test.YtgjlchcfdbmmlaaDoorRXg
import Derived.Test.YtgjlchcfdbmmlaaDoorRTag
import Derived.Test.YtgjlchcfdbmmlaaDoorRRg
import Derived.Deep.AppendLies
import Derived.Lib.ConvBytes
import Derived.Laws.BitsAllLaws
set_option linter.unusedSimpArgs false
set_option linter.unusedVariables false
/- A region that draws its order and in which a call may panic. Over any program. -/
namespace Go.Proofs.YtgjlchcfdbmmlaaDoor.Ord
section
variable {P : Program} {ops : Array Oper} {Q : Exit → Act → World → Prop} {md : Region.Mode} {a0 : Act}
/-- The operation is a call that panics. -/
def OpBad (P : Program) (o : Oper) (ρ : Operand → Value) (w : World) (B : List PanicEntry → World → Prop) : Prop :=
  match (execOp ρ o).run P w with
  | .ok (.enter f args) w' => Calls P f args w' fun e w'' => ∃ ch, e = .panicked ch ∧ B ch w''
  | _ => False
theorem OpBad.mono {o : Oper} {ρ : Operand → Value} {w : World} {B B' : List PanicEntry → World → Prop} (h : OpBad P o ρ w B) (hk : ∀ v w, B v w → B' v w) : OpBad P o ρ w B' := by
  unfold OpBad at *
  split at h
  · exact h.mono fun e w'' ⟨ch, he, hb⟩ => ⟨ch, he, hk _ _ hb⟩
  · exact h.elim
theorem OpBad.wpOp {i : Nat} {o : Oper} {K : Act → World → Prop} {a : Act} {w : World} (hi : ops[i]? = some o) (hg : o.guard = none)
    (h : OpBad P o a.eval w fun ch w' => Q (.panic ch) a w') : Go.wpOp P ops Q i K a w := by
  unfold Go.wpOp; rw [hi]; simp only [Region.wanted, hg, if_true]
  refine .inl ?_
  unfold Oper.wp
  unfold OpBad at h
  split at h
  · rename_i heq
    rw [heq]
    exact h.mono fun e w'' ⟨ch, he, hb⟩ => by subst he; exact hb
  · exact h.elim
theorem OpBad.call {o : Oper} {ρ : Operand → Value} {w w' : World} {f : FuncId} {args : Array Value} {B : List PanicEntry → World → Prop} (hr : (execOp ρ o).run P w = .ok (.enter f args) w')
    (hk : Calls P f args w' fun e w'' => ∃ ch, e = .panicked ch ∧ B ch w'') : OpBad P o ρ w B := by
  unfold OpBad; rw [hr]; exact hk
theorem OpBad.pre_reads {o : Oper} {g : Nat → Value} {i : Nat} {w : World} {B : List PanicEntry → World → Prop} (l : List (Tmp × Nat)) (sz : Nat) (hsz : a0.tmps.size = sz) (hok : okReads ops i o l sz = true)
    (hg : OpBad P o (rdl a0 (l.map fun x => (x.1, g x.2))) w B) : OpBad P o (pre ops a0 g i).eval w B := by
  unfold okReads at hok
  rw [Bool.and_eq_true] at hok
  obtain ⟨h1, h2⟩ := hok
  have hs : ∀ cs b, o.op ≠ .select cs b := fun cs b h => by rw [h] at h1; cases h1
  have hm : o.op.operands.toList.map (pre ops a0 g i).eval = o.op.operands.toList.map (rdl a0 (l.map fun x => (x.1, g x.2))) := by
    refine List.map_congr_left (fun x hx => ?_)
    have h3 := List.all_eq_true.1 h2 x hx
    cases x with
    | tmp t =>
      simp only [Bool.and_eq_true, decide_eq_true_eq] at h3
      rw [pre_eval g t (by rw [hsz]; exact h3.1)]
      simp only [rdl, lookup_map]
      cases hl : lastW ops t i with
      | none => rw [hl] at h3; simp only [Option.isNone_iff_eq_none] at h3; rw [h3.2]; rfl
      | some j => rw [hl] at h3; simp only [beq_iff_eq] at h3; rw [h3.2]; rfl
    | const v => induction i with | zero => rfl | succ i ih => rfl
    | global v => induction i with | zero => rfl | succ i ih => rfl
    | func v => induction i with | zero => rfl | succ i ih => rfl
  unfold OpBad at *
  rw [execOp_congr o hs (ρ := (pre ops a0 g i).eval) (ρ' := rdl a0 (l.map fun x => (x.1, g x.2))) (fun x hx => List.map_inj_left.1 hm x (by simpa using hx))]
  exact hg
theorem frL_defers (g : Nat → Value) (L : Nat → Bool) : ∀ m, (frL ops a0 g L m).defers = a0.defers
  | 0 => rfl
  | m + 1 => by
    unfold frL
    split
    · simp only [Act.put]; split <;> exact frL_defers g L m
    · exact frL_defers g L m
section
variable {n : Nat} (S : (Nat → Bool) → World → Prop) (R : Nat → World → World → Prop) (φ : Nat → Value → World → Prop)
theorem region_core4 (hw : WiredT md ops n) (hφ : ∀ i j v w w', i ≠ j → φ i v w → R j w w' → φ i v w')
    (step : ∀ i oi, i < n → ops[i]? = some oi → ∀ g w L, L i = false → S L w → (∀ j, j < i → waits md ops i j = true → φ j (g j) w) →
      OpGives P oi (pre ops a0 g i).eval w (fun v w' => R i w w' ∧ φ i v w' ∧ S (fun k => if k = i then true else L k) w') ∨ OpBad P oi (pre ops a0 g i).eval w (fun ch w' => ∀ a, a.defers = a0.defers → Q (.panic ch) a w'))
    (fin : ∀ g w L, (∀ i, i < n → L i = true) → S L w → (∀ i, i < n → φ i (g i) w) → wpAny P md ops Q (ops.size - n) (doneN ops n) (pre ops a0 g n) w) :
    ∀ (m : Nat) (listed : Array Bool) (g : Nat → Value) (w : World), (List.range n).countP (fun j => !listed.getD j false) = m → listed.size = ops.size →
      (∀ j oj, listed.getD j false = true → ops[j]? = some oj → ∀ e ∈ oj.after, Region.binds md e = true → listed.getD e.on false = true) →
      (∀ j, n ≤ j → listed.getD j false = false) → S (fun k => listed.getD k false) w → (∀ j, j < n → listed.getD j false = true → φ j (g j) w) →
      wpAny P md ops Q (m + (ops.size - n)) listed (frL ops a0 g (fun j => listed.getD j false) n) w := by
  intro m
  induction m with
  | zero =>
    intro listed g w hc hsz hcl htl hSw hph
    have hall : ∀ j, j < n → listed.getD j false = true := fun j hj => by
      have := count_zero _ n hc j hj; simpa using this
    have hl : listed = doneN ops n := by
      apply Array.ext
      · simp [doneN, hsz]
      · intro j h1 h2
        have e : listed[j] = listed.getD j false := by simp [h1]
        rw [e]
        simp only [doneN, List.getElem_toArray, List.getElem_map, List.getElem_range]
        by_cases hj : j < n
        · simp [hall j hj, hj]
        · rw [htl j (by omega)]; simp [hj]
    rw [frL_all g _ n hall, Nat.zero_add]
    subst hl
    exact fin g w _ (fun i hi => hall i hi) hSw (fun i hi => hph i hi (hall i hi))
  | succ m ih =>
    intro listed g w hc hsz hcl htl hSw hph
    rw [show m + 1 + (ops.size - n) = (m + (ops.size - n)) + 1 by omega]
    -- some operation may come up: the first that is not listed
    have hex : ∃ i, i < n ∧ listed.getD i false = false := by
      apply Classical.byContradiction
      intro hno
      have : (List.range n).countP (fun j => !listed.getD j false) = 0 := by
        rw [List.countP_eq_zero]
        intro j hj
        have hj' := List.mem_range.1 hj
        cases hl : listed.getD j false with
        | true => simp
        | false => exact absurd ⟨j, hj', hl⟩ hno
      omega
    have hunl : ∀ j, j < ops.size → (listed.getD j true = false ↔ listed.getD j false = false) := fun j hj => by simp [hsz, hj]
    have hne : Region.ready md ops listed ≠ [] := by
      intro h0
      obtain ⟨i, hi, hl⟩ := hex
      have key : ∀ d i, i = d → i < n → listed.getD i false = false → False := by
        intro d
        induction d using Nat.strongRecOn with
        | _ d ihd =>
          intro i hid hi hl
          obtain ⟨oi, ho, _, hdep⟩ := hw.op i hi
          have : i ∈ Region.ready md ops listed := mem_ready.2 ⟨(hunl i (by have := hw.le; omega)).2 hl, oi, ho, fun e he hb => by
            have hlt := hdep e he hb
            cases hx : listed.getD e.on false with
            | true => rfl
            | false => exact (ihd e.on (by omega) e.on rfl (by omega) hx).elim⟩
          rw [h0] at this; cases this
      exact key i i rfl hi hl
    refine ⟨fun h0 => absurd h0 hne, fun j hj => ?_⟩
    obtain ⟨hjun, oj, hoj, hdeps⟩ := mem_ready.1 hj
    have hjs : j < ops.size := (Array.getElem?_eq_some_iff.1 hoj).1
    have hjl := (hunl j hjs).1 hjun
    have hjn : j < n := by
      rcases Nat.lt_or_ge j n with h | h
      · exact h
      · obtain ⟨i, hi, hl⟩ := hex
        have := reaches_listed hcl 12 j i oj hoj hdeps (hw.tail j h hjs i hi)
        rw [hl] at this; cases this
    obtain ⟨oj2, ho2, hguard, _⟩ := hw.op j hjn
    rw [hoj] at ho2; injection ho2 with ho2; subst ho2
    -- the frame reads as the one in the text's order
    have hread : execOp (frL ops a0 g (fun j => listed.getD j false) n).eval oj = execOp (pre ops a0 g j).eval oj := by
      rw [← frL_pre (ops := ops) (a0 := a0) g j n (by omega)]
      refine execOp_congr oj (fun cs b => Region.noSelect_spec hw.sel j oj cs b hoj) (fun x hx => ?_)
      cases x with
      | tmp t =>
        refine frL_agree g _ _ t n (fun k hk hdk => ?_)
        by_cases hkj : k = j
        · subst hkj; simp [hjl]
        · have := hw.read j k oj hjn hk hkj hoj t hdk hx
          by_cases hlt : k < j
          · rw [if_pos hlt] at this
            obtain ⟨o', ho', e, he, hb, hon⟩ := waits_spec this
            rw [hoj] at ho'; injection ho' with ho'; subst ho'
            have h2 := hdeps e he hb
            rw [hon] at h2
            simp only [h2, decide_eq_true hlt]
          · rw [if_neg hlt] at this
            obtain ⟨o', ho', e, he, hb, hon⟩ := waits_spec this
            have hnl : listed.getD k false = false := by
              cases hx : listed.getD k false with
              | false => rfl
              | true =>
                have := hcl k o' hx ho' e he hb
                rw [hon, hjl] at this; cases this
            simp only [hnl, decide_eq_false hlt]
      | _ => rfl
    have hdst : oj.dst = dstAt ops j := by simp [dstAt, hoj]
    have hst := step j oj hjn hoj g w _ hjl hSw (fun k hk hwk => by
      obtain ⟨o', ho', e, he, hb, hon⟩ := waits_spec hwk
      rw [hoj] at ho'; injection ho' with ho'; subst ho'
      have h2 := hdeps e he hb
      rw [hon] at h2
      exact hph k (by omega) h2)
    rcases hst with hst | hst
    case inr =>
      refine OpBad.wpOp hoj hguard ?_
      unfold OpBad at hst ⊢
      rw [hread]
      refine OpBad.mono (o := oj) (ρ := (pre ops a0 g j).eval) hst (fun ch w' hb => hb _ (frL_defers _ _ _))
    refine OpGives.wpOp hoj hguard ?_
    unfold OpGives at hst ⊢
    rw [hread]
    refine OpGives.mono (o := oj) (ρ := (pre ops a0 g j).eval) hst (fun v w' ⟨hR, hphv, hSn⟩ => ?_)
    have hL : ∀ k, (listed.setIfInBounds j true).getD k false = if k = j then true else listed.getD k false := fun k => by
      by_cases hk : k = j
      · subst hk; simp [hsz, hjs]
      · simp only [hk, if_false]; exact getD_set_ne false (fun x => hk x.symm)
    have hfr : (frL ops a0 g (fun j => listed.getD j false) n).put oj.dst v = frL ops a0 (upd g j v) (fun k => (listed.setIfInBounds j true).getD k false) n := by
      rw [hdst]
      refine (frL_upd n g _ _ j v hjl (by simp [hL]) (fun k hk => by simp [hL, hk]) (fun k hk hkj d hd => hw.dst j k hjn hk hkj d hd) n (Nat.le_refl _) hjn).symm
    rw [hfr]
    refine ih (listed.setIfInBounds j true) (upd g j v) w' ?_ (by simp [hsz]) ?_ ?_ (by rw [show (fun k => (listed.setIfInBounds j true).getD k false) = (fun k => if k = j then true else listed.getD k false) from funext hL]; exact hSn) ?_
    · have := count_step (fun k => !listed.getD k false) (fun k => !(listed.setIfInBounds j true).getD k false) j (by simp [hjl]) (by simp [hL]) (fun k hk => by simp [hL, hk]) n hjn
      omega
    · intro k ok hk hok e he hb
      rw [hL] at hk ⊢
      by_cases hkj : k = j
      · subst hkj
        rw [hoj] at hok; injection hok with hok; subst hok
        split
        · rfl
        · exact hdeps e he hb
      · rw [if_neg hkj] at hk
        split
        · rfl
        · exact hcl k ok hk hok e he hb
    · intro k hk
      rw [hL, if_neg (by omega)]; exact htl k hk
    · intro k hk hl
      by_cases hkj : k = j
      · subst hkj; rw [upd_same]; exact hphv
      · rw [upd_other g v hkj]
        rw [hL, if_neg hkj] at hl
        exact hφ _ _ _ _ _ hkj (hph k hk hl) hR

end
/-- One obligation for each operation, in the order of the text. -/
def StepsP (P : Program) (ops : Array Oper) (Q : Exit → Act → World → Prop) (a0 : Act) (S : (Nat → Bool) → World → Prop) (R : Nat → World → World → Prop) (all : List (Value → World → Prop)) : Nat → List Oper → List (Value → World → Prop) → Prop
  | _, [], [] => True
  | i, o :: os, f :: fs => (∀ (g : Nat → Value) (w : World) (L : Nat → Bool), L i = false → S L w → (∀ j, j < i → waits .any ops i j = true → factM all j (g j) w) →
      OpGives P o (pre ops a0 g i).eval w (fun v w' => R i w w' ∧ f v w' ∧ S (fun k => if k = i then true else L k) w') ∨ OpBad P o (pre ops a0 g i).eval w (fun ch w' => ∀ a, a.defers = a0.defers → Q (.panic ch) a w')) ∧ StepsP P ops Q a0 S R all (i + 1) os fs
  | _, _, _ => False
variable {S : (Nat → Bool) → World → Prop} {R : Nat → World → World → Prop} {all : List (Value → World → Prop)}
theorem stepsP_nil {i : Nat} : StepsP P ops Q a0 S R all i [] [] := trivial
theorem stepsP_cons {i : Nat} {o : Oper} {os : List Oper} {f : Value → World → Prop} {fs : List (Value → World → Prop)}
    (h : ∀ (g : Nat → Value) (w : World) (L : Nat → Bool), L i = false → S L w → (∀ j, j < i → waits .any ops i j = true → factM all j (g j) w) → OpGives P o (pre ops a0 g i).eval w (fun v w' => R i w w' ∧ f v w' ∧ S (fun k => if k = i then true else L k) w'))
    (rest : StepsP P ops Q a0 S R all (i + 1) os fs) : StepsP P ops Q a0 S R all i (o :: os) (f :: fs) := ⟨fun g w L a b d => .inl (h g w L a b d), rest⟩
theorem stepsP_bad {i : Nat} {o : Oper} {os : List Oper} {f : Value → World → Prop} {fs : List (Value → World → Prop)}
    (h : ∀ (g : Nat → Value) (w : World) (L : Nat → Bool), L i = false → S L w → (∀ j, j < i → waits .any ops i j = true → factM all j (g j) w) → OpBad P o (pre ops a0 g i).eval w (fun ch w' => ∀ a, a.defers = a0.defers → Q (.panic ch) a w'))
    (rest : StepsP P ops Q a0 S R all (i + 1) os fs) : StepsP P ops Q a0 S R all i (o :: os) (f :: fs) := ⟨fun g w L a b d => .inr (h g w L a b d), rest⟩
theorem stepsP_get : ∀ (os : List Oper) (fs : List (Value → World → Prop)) (k : Nat), StepsP P ops Q a0 S R all k os fs →
    ∀ i o, os[i]? = some o → ∃ f, fs[i]? = some f ∧ (∀ (g : Nat → Value) (w : World) (L : Nat → Bool), L (k + i) = false → S L w → (∀ j, j < k + i → waits .any ops (k + i) j = true → factM all j (g j) w) →
      OpGives P o (pre ops a0 g (k + i)).eval w (fun v w' => R (k + i) w w' ∧ f v w' ∧ S (fun x => if x = k + i then true else L x) w') ∨ OpBad P o (pre ops a0 g (k + i)).eval w (fun ch w' => ∀ a, a.defers = a0.defers → Q (.panic ch) a w'))
  | [], _, _, _, i, o, h => by simp at h
  | o :: os, [], _, hs, _, _, _ => by simp [StepsP] at hs
  | o :: os, f :: fs, k, hs, i, o', h => by
    cases i with
    | zero =>
      simp at h; subst h
      exact ⟨f, rfl, hs.1⟩
    | succ i =>
      obtain ⟨f', hf, hx⟩ := stepsP_get os fs (k + 1) hs.2 i o' (by simpa using h)
      refine ⟨f', by simpa using hf, ?_⟩
      have e : k + 1 + i = k + (i + 1) := by omega
      rw [e] at hx
      exact hx
/-- THE REGION: what holds hangs on which operations are over. -/
theorem wp_region_factsP {id : Nat} {w : World} {S : (Nat → Bool) → World → Prop} (R : Nat → World → World → Prop) (fs : List (Value → World → Prop)) (hm : P.follows .mixedOrders = true) (hw : wiredT .any ops fs.length = true)
    (hst : ∀ i j v w w', i ≠ j → factM fs i v w → R j w w' → factM fs i v w') (h0 : S (fun _ => false) w.drew) (steps : StepsP P ops Q a0 S R fs 0 (ops.toList.take fs.length) fs)
    (fin : ∀ g w L, (∀ i, i < fs.length → L i = true) → S L w → (∀ i, i < fs.length → factM fs i (g i) w) → wpAny P .any ops Q (ops.size - fs.length) (doneN ops fs.length) (pre ops a0 g fs.length) w) :
    (Code.region id ops true).wp P Q a0 w := by
  refine wp_region_any hm ?_
  have hW := wiredT_spec hw
  have hf : ∀ j, (Array.replicate ops.size false).getD j false = false := fun j => by
    rcases Nat.lt_or_ge j ops.size with h | h <;> simp [h]
  have h := region_core4 (Q := Q) (a0 := a0) (fun L w => S L w) R (factM fs) hW
    hst
    (fun i oi hi ho g w L hLi hSw hd => by
      obtain ⟨f, hf, hx⟩ := stepsP_get _ _ 0 steps i oi (by rw [List.getElem?_take, if_pos hi]; simpa using ho)
      have := hx g w L (by rw [Nat.zero_add]; exact hLi) hSw (fun j hj hw => hd j (by omega) (by simpa using hw))
      simp only [Nat.zero_add] at this
      exact this.elim (fun x => .inl (x.mono fun v w' ⟨hr, hp, hs⟩ => ⟨hr, by unfold factM; rw [hf]; exact hp, hs⟩)) .inr)
    (fun g w L hL hSw hp => fin g w L hL hSw hp) fs.length (Array.replicate ops.size false) (fun _ => undef) w.drew
    (by rw [List.countP_eq_length.2]; · simp
        · intro j _; simp only [hf]; rfl) (by simp) (fun j oj hj => by rw [hf] at hj; cases hj) (fun j _ => hf j) (by rw [show (fun k => (Array.replicate ops.size false).getD k false) = fun _ => false from funext hf]; exact h0) (fun j _ hj => by rw [hf] at hj; cases hj)
  have e1 : fs.length + (ops.size - fs.length) = ops.size := by have := hW.le; omega
  rw [e1] at h
  have e2 : ∀ m, frL ops a0 (fun _ => undef) (fun j => (Array.replicate ops.size false).getD j false) m = a0 := by
    intro m
    induction m with
    | zero => rfl
    | succ m ihm => unfold frL; rw [hf, ihm]; simp
  rw [e2] at h
  exact h
end
end Go.Proofs.YtgjlchcfdbmmlaaDoor.Ord
/- A row of cells that a call makes one by one: what holds between the rounds. -/
namespace Go.Proofs.YtgjlchcfdbmmlaaDoor.PObjectTakes
open Go.RowKit Go.Proofs.YtgjlchcfdbmmlaaDoor.Ord Go.Proofs.YtgjlchcfdbmmlaaDoorW.PrintWords Go.Proofs.YtgjlchcfdbmmlaaDoorW.PrintLast Go.Proofs.YtgjlchcfdbmmlaaDoorW.PrintMore
set_option linter.unusedVariables false
set_option linter.unusedSimpArgs false

theorem R_slice {α : Type} {d : Kd α} {e : Nat} {w : World} {base : Nat} {ok : Nat → Prop} {v : Value} {xs : List α} (h : d.R e w base ok v xs) : ∃ A c, v = .slice A xs.length c := by
  obtain ⟨A, c, hv, _⟩ := Kd.R_reads h
  exact ⟨A, c, hv⟩
theorem ModB.put {b : Nat} {w W : World} (h : ModB b w W) (g : Nat) (hg : w.heap.size ≤ g) (j : Nat) (v : Value) : ModB b w (W.setCell ⟨g, j, none⟩ v) :=
  ⟨h.os, h.tape, h.output, by have := h.size; simpa [World.setCell] using this, fun k hk hb => (Below.heap_setCell _ _ _ _ (show k ≠ g by omega)).trans (h.block k hk hb)⟩
theorem RdAt.put {b : Nat} {s : ByteArray} {q : Nat} {W : World} (h : RdAt b s q W) (g : Nat) (hg : b ≠ g) (j : Nat) (v : Value) : RdAt b s q (W.setCell ⟨g, j, none⟩ v) :=
  (Below.heap_setCell W ⟨g, j, none⟩ v b hg).trans h
/-- The row's blocks: neither the reader's nor any up to the variable's. -/
def okR (b g : Nat) (k : Nat) : Prop := k ≠ b ∧ g < k
/-- Between rounds: the variable in block g holds the row v of acc; the reader stands at q. -/
structure OutAt (W1 : World) (b g : Nat) (s : ByteArray) (v : Value) (acc : List S42) (q : Nat) (W : World) : Prop where
  mod : ModB b W1 W
  ge : W1.heap.size ≤ g
  lt : b < W1.heap.size
  blk : W.heap[g]? = some (.cells #[.int .i64 3, .int .i64 0, .string (⟨#[]⟩ : ByteArray), v] 42 (0, 0))
  row : Kd.R k42 42 W (g + 1) (okR b g) v acc
  rd : RdAt b s q W
/-- Blocks of the row v may have turned, and the reader. -/
structure ModV (b : Nat) (v : Value) (w w' : World) : Prop where
  os : w'.os = w.os
  tape : w'.tape = w.tape
  output : w'.output = w.output
  size : w.heap.size ≤ w'.heap.size
  block : ∀ k, k < w.heap.size → k ≠ b → v.ownBlock ≠ some k → w'.heap[k]? = w.heap[k]?
theorem ModV.trans {b : Nat} {v : Value} {w w1 w2 : World} (h : ModV b v w w1) (k : ModV b v w1 w2) : ModV b v w w2 :=
  ⟨k.os.trans h.os, k.tape.trans h.tape, k.output.trans h.output, Nat.le_trans h.size k.size, fun i hi hb hv => (k.block i (Nat.lt_of_lt_of_le hi h.size) hb hv).trans (h.block i hi hb hv)⟩
theorem ModV.of_B {b : Nat} {v : Value} {w w' : World} (h : ModB b w w') : ModV b v w w' := ⟨h.os, h.tape, h.output, h.size, fun k hk hb _ => h.block k hk hb⟩
theorem ModV.drew {b : Nat} {v : Value} {w : World} : ModV b v w w.drew := ⟨rfl, rfl, rfl, Nat.le_refl _, fun _ _ _ _ => rfl⟩
theorem ModV.of_grown {b : Nat} {v : Value} {w w' : World} (h : w.grownBy w' v.ownBlock) : ModV b v w w' := ⟨h.os, h.tape, h.output, h.size, fun k hk _ hv => h.block k hk (fun e => hv e.symm)⟩
/-- Each operation's relation: the append (7) turns the row, the others the reader at most. -/
def Rr (b : Nat) (v : Value) (i : Nat) (a c : World) : Prop := if i = 7 then a.grownBy c v.ownBlock else ModB b a c
theorem Rr.modV {b : Nat} {v : Value} {i : Nat} {a c : World} (h : Rr b v i a c) : ModV b v a c := by
  unfold Rr at h
  split at h
  · exact ModV.of_grown h
  · exact ModV.of_B h
/-- What the call hands back. -/
def childP (b : Nat) (v : Value) (x : S42) (lo : Nat) (u : Value) (W : World) : Prop :=
  ∃ v3, u = .agg #[.int .i64 x.f0, .int .i64 x.f1, .string x.f2, v3] ∧ Kd.R k42 42 W lo (fun k => k ≠ b ∧ v.ownBlock ≠ some k) v3 x.f3
theorem childP.st {b : Nat} {v : Value} {x : S42} {lo : Nat} {u : Value} {W W' : World} (h : childP b v x lo u W) (hm : ModV b v W W') : childP b v x lo u W' := by
  obtain ⟨v3, e, hr⟩ := h
  exact ⟨v3, e, Kd.R_step hr (fun k hk hl => hm.block k hl hk.1 hk.2)⟩
/-- The literal of one cell. -/
def litP (b : Nat) (v : Value) (x : S42) (lo : Nat) (u : Value) (W : World) : Prop :=
  ∃ g v3, u = .slice (some ⟨g, 0, none⟩) 1 1 ∧ W.heap[g]? = some (.cells #[.int .i64 x.f0, .int .i64 x.f1, .string x.f2, v3] 42 (0, 0)) ∧ g ≠ b ∧ v.ownBlock ≠ some g ∧ v3.oneCell' = true ∧ Kd.R k42 42 W lo (fun k => k ≠ b ∧ v.ownBlock ≠ some k) v3 x.f3
theorem litP.st {b : Nat} {v : Value} {x : S42} {lo : Nat} {u : Value} {W W' : World} (h : litP b v x lo u W) (hm : ModV b v W W') : litP b v x lo u W' := by
  obtain ⟨g, v3, e, hg, hb, hv, h1, hr⟩ := h
  exact ⟨g, v3, e, (hm.block g (Array.getElem?_eq_some_iff.1 hg).1 hb hv).trans hg, hb, hv, h1, Kd.R_step hr (fun k hk hl => hm.block k hl hk.1 hk.2)⟩
/-- The row, one cell longer. -/
def rowP (b g : Nat) (xs : List S42) (u : Value) (W : World) : Prop := Kd.R k42 42 W (g + 1) (okR b g) u xs
theorem rowP.st {b g : Nat} {xs : List S42} {u : Value} {W W' : World} (h : rowP b g xs u W) (hm : ModB b W W') : rowP b g xs u W' := Kd.R_step h (fun k hk hl => hm.block k hl hk.1)
/-- What holds within the round's region, L telling which operations are over. -/
def InR (wr : World) (b g : Nat) (s : ByteArray) (v : Value) (acc : List S42) (q q' : Nat) (L : Nat → Bool) (W : World) : Prop :=
  ModV b v wr W ∧ (L 7 = false → Kd.R k42 42 W (g + 1) (okR b g) v acc) ∧ (L 5 = false → RdAt b s q W) ∧ (L 5 = true → RdAt b s q' W ∧ q ≤ q' ∧ q' ≤ s.size)
theorem own_lt_R {b g : Nat} {v : Value} {acc : List S42} {W : World} (h : Kd.R k42 42 W (g + 1) (okR b g) v acc) : ∀ k, v.ownBlock = some k → g < k ∧ k ≠ b ∧ k < W.heap.size := fun k hk => by
  have h0 := h.1 k hk
  obtain ⟨_, inner, ho, _⟩ := h
  exact ⟨h0.2, h0.1, own_lt ho k hk⟩
theorem infoCell : (Tryd.prog.info? 42).map (fun i => (i.zero, i.size, i.bytes)) = some (some (.agg #[.int .i64 0, .int .i64 0, .string (⟨#[]⟩ : ByteArray), .slice none 0 0]), 4, 56) := by kernel_rfl
/-- The append. -/
theorem append_cell {b g : Nat} {s : ByteArray} {v : Value} {acc : List S42} {q q' : Nat} {wr W : World} {L : Nat → Bool} {x : S42} {lo : Nat} {u : Value} (hS : InR wr b g s v acc q q' L W) (hL : L 7 = false) (hb : b < wr.heap.size) (hg : g < wr.heap.size) (hlo : g + 1 ≤ lo) (hlg : ∀ k, lo ≤ k → g < k)
    (h6 : litP b v x lo u W) (hn : acc.length ≤ 1000000) (ty : TypeId) :
    ∃ v' W', (Builtin.append_ #[40, 40] ty #[v, u]).run Tryd.prog W = .ok v' W' ∧ W.grownBy W' v.ownBlock ∧ rowP b g (acc ++ [x]) v' W' ∧ InR wr b g s v acc q q' (fun k => if k = 7 then true else L k) W' := by
  obtain ⟨hm, hrow, h5, h5'⟩ := hS
  have hR := hrow hL
  obtain ⟨g6, v3, rfl, hg6, hgb, hgv, h1, hr3⟩ := h6
  obtain ⟨i0, hi0, hz0, hz1, hz2⟩ := info_parts infoCell
  obtain ⟨h0, inner, hown, hreps⟩ := hR
  have hne := own_lt_R (hrow hL)
  have hbn : (acc.length + 1) * 56 ≤ 1000001 * 56 := Nat.mul_le_mul (by omega) (Nat.le_refl _)
  obtain ⟨h, cap, W', hr, hown', hgr, hat, _⟩ := run_append_lies (P := Tryd.prog) W 40 ty (g + 1) 42 i0 _ 4 56 Tryd.underlying40 hi0 hz0 hz1 hz2 (by rfl) (by decide) v acc.length _ hown ⟨g6, 0, none⟩ 1 1 [.int .i64 x.f0, .int .i64 x.f1, .string x.f2, v3]
    (by rfl) (World.news_of_block (cs := #[.int .i64 x.f0, .int .i64 x.f1, .string x.f2, v3]) hg6) (by
      intro u hu
      simp only [List.mem_cons, List.not_mem_nil, or_false] at hu
      rcases hu with rfl | rfl | rfl | rfl
      · rfl
      · rfl
      · rfl
      · exact h1) (by decide) (by unfold maxLen; omega) (by omega) (by have := hm.size; omega) W.heap.size rfl
  have hm3 : Kd.M k42 W (g + 1) (fun k => (k ≠ b ∧ v.ownBlock ≠ some k) ∧ lo ≤ k) x [.int .i64 x.f0, .int .i64 x.f1, .string x.f2, v3] :=
    k42_mkM W (g + 1) _ x (Kd.R_lower (Kd.R_mono (Kd.R_bound hr3) (fun k hk => ⟨hk.1, hk.2.1⟩)) hlo)
  have hres := Kd.R_appended (d := k42) (e := 42) (base := g + 1) (ok := okR b g) (W := W) (w1 := W') (v := v) (v1 := .slice (some ⟨h, 0, none⟩) (acc.length + 1) cap) h0 hreps hm3 (fun k hk => ⟨⟨hk.1.1, hlg k hk.2⟩, fun e => hk.1.2 e.symm⟩) (fun k hk => ⟨by have := hm.size; omega, by have := hm.size; omega⟩) hown' hgr
    (hat.elim (fun e => .inl (by rw [e]; rfl)) (fun e => .inr ⟨h, rfl, by omega⟩))
  refine ⟨_, W', hr, hgr, hres, hm.trans (ModV.of_grown hgr), fun e => (by cases e), fun e => ?_, fun e => ?_⟩
  · have hr := h5 e
    exact (hgr.block b (by have := hm.size; omega) (fun e => (hne b e.symm).2.1 rfl)).trans hr
  · have hr := h5' e
    exact ⟨(hgr.block b (by have := hm.size; omega) (fun e => (hne b e.symm).2.1 rfl)).trans hr.1, hr.2⟩
theorem Rr.of_B {b : Nat} {v : Value} {i : Nat} {a c : World} (hi : i ≠ 7) (h : ModB b a c) : Rr b v i a c := by unfold Rr; rw [if_neg hi]; exact h
theorem Rr.of_grown {b : Nat} {v : Value} {a c : World} (h : a.grownBy c v.ownBlock) : Rr b v 7 a c := by unfold Rr; rw [if_pos rfl]; exact h
theorem Rr.toB {b : Nat} {v : Value} {i : Nat} {a c : World} (hi : i ≠ 7) (h : Rr b v i a c) : ModB b a c := by unfold Rr at h; rw [if_neg hi] at h; exact h
/-- The call within the round. -/
theorem call_post {wr W w' : World} {b g : Nat} {s : ByteArray} {v : Value} {acc : List S42} {q q' : Nat} {L : Nat → Bool} {x : S42} {e : Ending} (hS : InR wr b g s v acc q q' L W) (hb : b < wr.heap.size) (hv : ∀ k, v.ownBlock = some k → k < wr.heap.size)
    (hp : CellPost (.ok x q') b s q W e w') : ∃ u, e = .returned u ∧ Rr b v 5 W w' ∧ childP b v x wr.heap.size u w' ∧ InR wr b g s v acc q q' (fun k => if k = 5 then true else L k) w' := by
  obtain ⟨hm, ⟨v3, he, hR⟩, hrd, hq⟩ := hp
  obtain ⟨h1, h2, h3, h4⟩ := hS
  refine ⟨_, he, Rr.of_B (by decide) hm, ⟨v3, rfl, ?_⟩, h1.trans (ModV.of_B hm), fun e => ?_, fun e => (by cases e), fun _ => ⟨hrd, hq⟩⟩
  · exact Kd.R_lower (Kd.R_mono (Kd.R_bound hR) (fun k hk => ⟨hk.1, fun e => by have := hv k e; have := h1.size; omega⟩)) h1.size
  · exact Kd.R_step (h2 e) (fun k hk hl => hm.block k hl hk.1)
/-- The literal within the round. -/
theorem lit_post {wr W : World} {b g : Nat} {s : ByteArray} {v v3 : Value} {acc : List S42} {q q' : Nat} {L : Nat → Bool} {x : S42} (hS : InR wr b g s v acc q q' L W) (hb : b < wr.heap.size) (hv : ∀ k, v.ownBlock = some k → k < wr.heap.size) (h1 : v3.oneCell' = true)
    (hR : Kd.R k42 42 W wr.heap.size (fun k => k ≠ b ∧ v.ownBlock ≠ some k) v3 x.f3) :
    Rr b v 6 W (W.alloc (.cells #[.int .i64 x.f0, .int .i64 x.f1, .string x.f2, v3] 42)) ∧ litP b v x wr.heap.size (.slice (some ⟨W.heap.size, 0, none⟩) 1 1) (W.alloc (.cells #[.int .i64 x.f0, .int .i64 x.f1, .string x.f2, v3] 42)) ∧
    InR wr b g s v acc q q' (fun k => if k = 6 then true else L k) (W.alloc (.cells #[.int .i64 x.f0, .int .i64 x.f1, .string x.f2, v3] 42)) := by
  obtain ⟨m1, m2, m3, m4⟩ := hS
  have hn : Below W.heap.size W (W.alloc (.cells #[.int .i64 x.f0, .int .i64 x.f1, .string x.f2, v3] 42)) := (Below.refl _ _).alloc (Nat.le_refl _) _
  refine ⟨Rr.of_B (by decide) (ModB.of_below hn), ⟨_, _, rfl, heap_alloc_last _ _, by have := m1.size; omega, fun e => by have := hv _ e; have := m1.size; omega, h1, Kd.R_below hR hn⟩, m1.trans (ModV.of_B (ModB.of_below hn)), fun e => Kd.R_below (m2 e) hn, fun e => (m3 e).kept hn, fun e => ⟨(m4 e).1.kept hn, (m4 e).2⟩⟩
/-- The facts of the round's region stay. -/
theorem facts_st {b g lo : Nat} {v : Value} {x : S42} {acc : List S42} {V0 V1 V2 V3 V4 : Value} : ∀ (i j : Nat) (u : Value) (w w' : World), i ≠ j →
    factM [eqM V0, eqM V1, eqM V2, eqM V3, eqM V4, childP b v x lo, litP b v x lo, rowP b g (acc ++ [x])] i u w → Rr b v j w w' → factM [eqM V0, eqM V1, eqM V2, eqM V3, eqM V4, childP b v x lo, litP b v x lo, rowP b g (acc ++ [x])] i u w'
  | 0, _, _, _, _, _, h, _ => h
  | 1, _, _, _, _, _, h, _ => h
  | 2, _, _, _, _, _, h, _ => h
  | 3, _, _, _, _, _, h, _ => h
  | 4, _, _, _, _, _, h, _ => h
  | 5, _, _, _, _, _, h, hR => childP.st h hR.modV
  | 6, _, _, _, _, _, h, hR => litP.st h hR.modV
  | 7, j, _, _, _, hij, h, hR => rowP.st h (Rr.toB (Ne.symm hij) hR)
  | n + 8, _, _, _, _, _, _, _ => trivial
/-- Nothing is handed back. -/
def badM : Value → World → Prop := fun _ _ => False
theorem facts_bad {b : Nat} {V0 V1 V2 V3 V4 V7 : Value} : ∀ (i j : Nat) (u : Value) (w w' : World), i ≠ j →
    factM [eqM V0, eqM V1, eqM V2, eqM V3, eqM V4, badM, badM, eqM V7] i u w → ModB b w w' → factM [eqM V0, eqM V1, eqM V2, eqM V3, eqM V4, badM, badM, eqM V7] i u w'
  | 0, _, _, _, _, _, h, _ => h
  | 1, _, _, _, _, _, h, _ => h
  | 2, _, _, _, _, _, h, _ => h
  | 3, _, _, _, _, _, h, _ => h
  | 4, _, _, _, _, _, h, _ => h
  | 5, _, _, _, _, _, h, _ => h
  | 6, _, _, _, _, _, h, _ => h
  | 7, _, _, _, _, _, h, _ => h
  | n + 8, _, _, _, _, _, _, _ => trivial
/-- The longer row stored. -/
theorem out_step {W1 wr W : World} {b g : Nat} {s : ByteArray} {v v7 : Value} {acc : List S42} {x : S42} {q q' : Nat} (ho : OutAt W1 b g s v acc q wr) (hm : ModV b v wr W) (hr : rowP b g (acc ++ [x]) v7 W) (hrd : RdAt b s q' W) :
    OutAt W1 b g s v7 (acc ++ [x]) q' (W.setCell ⟨g, 3, none⟩ v7) := by
  have hown := own_lt_R ho.row
  have hgl := (Array.getElem?_eq_some_iff.1 ho.blk).1
  have hgb : g ≠ b := by have := ho.lt; have := ho.ge; omega
  have hb := (hm.block g hgl hgb (fun e => Nat.lt_irrefl _ (hown _ e).1)).trans ho.blk
  have hm1 : ModB b W1 W := ⟨hm.os.trans ho.mod.os, hm.tape.trans ho.mod.tape, hm.output.trans ho.mod.output, Nat.le_trans ho.mod.size hm.size, fun k hk hkb =>
    (hm.block k (Nat.lt_of_lt_of_le hk ho.mod.size) hkb (fun e => by have := (hown _ e).1; have := ho.ge; omega)).trans (ho.mod.block k hk hkb)⟩
  exact ⟨hm1.put g ho.ge 3 v7, ho.ge, ho.lt, blk_put (cs := #[.int .i64 3, .int .i64 0, .string (⟨#[]⟩ : ByteArray), v]) hb 3 _ rfl,
    Kd.R_far (p := ⟨g, 3, none⟩) hr (fun k hk => Nat.ne_of_gt hk.2) v7, hrd.put g (Ne.symm hgb) 3 v7⟩
end Go.Proofs.YtgjlchcfdbmmlaaDoor.PObjectTakes
/- (*reader).cell walked. -/
namespace Go.Proofs.YtgjlchcfdbmmlaaDoor.PObjectTakes
open Go.RowKit Go.Proofs.YtgjlchcfdbmmlaaDoor.Ord Go.Proofs.YtgjlchcfdbmmlaaDoorW.PrintWords Go.Proofs.YtgjlchcfdbmmlaaDoorW.PrintLast Go.Proofs.YtgjlchcfdbmmlaaDoorW.PrintMore
set_option linter.unusedVariables false
set_option linter.unusedSimpArgs false
attribute [local irreducible] OpGives
attribute [local go_sem] rdl_const rdl_func rdl_global rdl_nil rdl_cons

theorem ext0 (s : ByteArray) (p : Nat) (hp : p < s.size) (h : 0 < (s.extract p (p + 1)).size) : ((s.extract p (p + 1))[0]'h).toNat = byteAt s p := by
  have h1 : (s.extract p (p + 1)).data = s.data.extract p (p + 1) := by simp
  have h2 : p < s.data.size := hp
  have e : (s.extract p (p + 1))[0]'h = (s.extract p (p + 1)).data[0]'h := rfl
  rw [e]
  simp only [h1]
  unfold byteAt
  rw [Array.getElem_extract]
  simp [h2, Array.getElem?_eq_getElem h2]
theorem meth_number (v : Bool) (w : World) : (method 209 155 (.agg #[.bool v]) "fasti/cell.most").run Tryd.prog w = .ok (115, .agg #[.bool v]) w := by kernel_rfl
theorem meth_word (w : World) : (method 209 157 (.agg #[]) "fasti/cell.most").run Tryd.prog w = .ok (116, .agg #[]) w := by kernel_rfl
theorem meth_row (w : World) : (method 209 166 (.agg #[]) "fasti/cell.most").run Tryd.prog w = .ok (117, .agg #[]) w := by kernel_rfl
theorem ext_at (s : ByteArray) (p n j : Nat) (h : p + n ≤ s.size) (hj : j < n) : ((s.extract p (p + n)).data.toList.getD j 0).toNat = byteAt s (p + j) := by
  have h1 : (s.extract p (p + n)).data = s.data.extract p (p + n) := by simp
  have h2 : p + j < s.data.size := by have : s.data.size = s.size := rfl; omega
  rw [h1]
  unfold byteAt
  simp [List.getD_eq_getElem?_getD, Array.getElem?_extract, h2, hj]
theorem numAt_lt (s : ByteArray) (p : Nat) : ∀ n, numAt s p n < 256 ^ n
  | 0 => by simp [numAt]
  | n + 1 => by
    have := numAt_lt s p n
    have hb : byteAt s (p + n) < 256 := UInt8.toNat_lt _
    rw [numAt, Nat.pow_succ]; omega
theorem or_byte (s : ByteArray) (p j : Nat) (hj : j ≤ 7) : bits BinOp.or IntKind.u64 ((numAt s p j : Int) * 256) (byteAt s (p + j) : Int) = (numAt s p (j + 1) : Int) := by
  have h1 := numAt_lt s p j
  have h2 : 256 ^ j ≤ 256 ^ 7 := Nat.pow_le_pow_right (by decide) hj
  have h7 : (256 : Nat) ^ 7 = 72057594037927936 := by decide
  have hb : byteAt s (p + j) < 256 := UInt8.toNat_lt _
  have e := u64_or_nat (numAt s p j * 256) (byteAt s (p + j)) (by omega) (by omega)
  rw [Int.natCast_mul] at e
  rw [show ((numAt s p j : Int) * 256) = (numAt s p j : Int) * ((256 : Nat) : Int) by rfl, e, numAt]
  congr 1
  have := Nat.two_pow_add_eq_or_of_lt (i := 8) (b := byteAt s (p + j)) (by omega) (numAt s p j)
  rw [Nat.mul_comm (numAt s p j) 256]
  exact this.symm
theorem below_bytes (w : World) (e : TypeId) (s : ByteArray) : Below w.heap.size w (Lib.bytesWorld w e s) :=
  ⟨rfl, rfl, rfl, by rw [Lib.bytesWorld_size]; omega, fun k hk => Lib.bytesWorld_at_old w e s k hk⟩
theorem as_num (v : Bool) (W : World) : (Instr.typeAssert (.iface 155 (.agg #[.bool v])) 149 155 true).run Tryd.prog W = .ok (.tuple #[.agg #[.bool v], .bool true]) W := by kernel_rfl
theorem as_word1 (W : World) : (Instr.typeAssert (.iface 157 (.agg #[])) 149 155 true).run Tryd.prog W = .ok (.tuple #[.agg #[.bool false], .bool false]) W := by kernel_rfl
theorem as_word2 (W : World) : (Instr.typeAssert (.iface 157 (.agg #[])) 149 157 true).run Tryd.prog W = .ok (.tuple #[.agg #[], .bool true]) W := by kernel_rfl
theorem as_row1 (W : World) : (Instr.typeAssert (.iface 166 (.agg #[])) 149 155 true).run Tryd.prog W = .ok (.tuple #[.agg #[.bool false], .bool false]) W := by kernel_rfl
theorem as_row2 (W : World) : (Instr.typeAssert (.iface 166 (.agg #[])) 149 157 true).run Tryd.prog W = .ok (.tuple #[.agg #[], .bool false]) W := by kernel_rfl
theorem four_put {W : World} {g : Nat} {ty : TypeId} {a b c d : Value} (h : W.heap[g]? = some (.cells #[a, b, c, d] ty (0, 0))) (a' b' c' d' : Value) :
    ((((W.setCell ⟨g, 0, none⟩ a').setCell ⟨g, 1, none⟩ b').setCell ⟨g, 2, none⟩ c').setCell ⟨g, 3, none⟩ d').heap[g]? = some (.cells #[a', b', c', d'] ty (0, 0)) :=
  blk_put (cs := #[a', b', c', d]) (blk_put (cs := #[a', b', c, d]) (blk_put (cs := #[a', b, c, d]) (blk_put (cs := #[a, b, c, d]) h 0 _ rfl) 1 _ rfl) 2 _ rfl) 3 _ rfl
/-- The cell is laid into the result's variable. -/
theorem fin_cell {b : Nat} {s : ByteArray} {q : Nat} {w W : World} {base : Nat} {v : Value} {xs : List S42} (hb : b < w.heap.size) (hm : ModB b w W) (hr : RdAt b s q W) (hbase : w.heap.size < base)
    (hR : Kd.R k42 42 W base (fun k => k ≠ b) v xs) (u0 u1 u2 u3 : Value) :
    ModB b w ((((W.setCell ⟨w.heap.size, 0, none⟩ u0).setCell ⟨w.heap.size, 1, none⟩ u1).setCell ⟨w.heap.size, 2, none⟩ u2).setCell ⟨w.heap.size, 3, none⟩ u3) ∧
    RdAt b s q ((((W.setCell ⟨w.heap.size, 0, none⟩ u0).setCell ⟨w.heap.size, 1, none⟩ u1).setCell ⟨w.heap.size, 2, none⟩ u2).setCell ⟨w.heap.size, 3, none⟩ u3) ∧
    Kd.R k42 42 ((((W.setCell ⟨w.heap.size, 0, none⟩ u0).setCell ⟨w.heap.size, 1, none⟩ u1).setCell ⟨w.heap.size, 2, none⟩ u2).setCell ⟨w.heap.size, 3, none⟩ u3) w.heap.size (fun k => k ≠ b) v xs := by
  have h1 : Kd.R k42 42 W base (fun k => k ≠ b ∧ base ≤ k) v xs := Kd.R_mono (Kd.R_bound hR) (fun k hk => ⟨hk.1, hk.2.1⟩)
  have hne : ∀ k, (k ≠ b ∧ base ≤ k) → k ≠ w.heap.size := fun k hk => by omega
  have h2 := Kd.R_far (p := ⟨w.heap.size, 0, none⟩) h1 hne u0
  have h3 := Kd.R_far (p := ⟨w.heap.size, 1, none⟩) h2 hne u1
  have h4 := Kd.R_far (p := ⟨w.heap.size, 2, none⟩) h3 hne u2
  have h5 := Kd.R_far (p := ⟨w.heap.size, 3, none⟩) h4 hne u3
  exact ⟨(((hm.put _ (Nat.le_refl _) _ _).put _ (Nat.le_refl _) _ _).put _ (Nat.le_refl _) _ _).put _ (Nat.le_refl _) _ _,
    (((hr.put _ (by omega) _ _).put _ (by omega) _ _).put _ (by omega) _ _).put _ (by omega) _ _,
    Kd.R_mono (Kd.R_lower h5 (Nat.le_of_lt hbase)) (fun k hk => hk.1)⟩
theorem byteAt_lt (s : ByteArray) (p : Nat) : byteAt s p < 256 := UInt8.toNat_lt _
theorem firstV_bad {c : Nat} (h : c / 16 < 1 ∨ 4 < c / 16) : firstV c = .nilIface := by
  unfold firstV
  rw [if_neg (by omega), if_neg (by omega), if_neg (by omega), if_neg (by omega)]
set_option maxHeartbeats 16000000 in
set_option maxRecDepth 100000 in
theorem cell_step (d : Nat) (hd : d ≤ 40) (s : ByteArray) (hs : s.size ≤ 140737488355328) (b : Nat) (g : Nat → DR S42)
    (ih : 0 < d → ∀ (p : Nat) (w : World), RdAt b s p w → p ≤ s.size → Calls Tryd.prog 66 #[.pointer (some ⟨b, 0, none⟩), .int .i64 ((d : Int) - 1)] w (CellPost (g p) b s p w))
    (p : Nat) (w : World) (h : RdAt b s p w) (hp : p ≤ s.size) :
    Calls Tryd.prog 66 #[.pointer (some ⟨b, 0, none⟩), .int .i64 (d : Int)] w (CellPost (cellW s (decide (0 < d)) g p) b s p w) := by
  have hbl : b < w.heap.size := (Array.getElem?_eq_some_iff.1 h).1
  obtain ⟨W1, hW1⟩ : ∃ W1, W1 = w.alloc (.cells #[.int .i64 0, .int .i64 0, .string (⟨#[]⟩ : ByteArray), .slice none 0 0] 42) := ⟨_, rfl⟩
  have hn1 : Below w.heap.size w W1 := by rw [hW1]; exact (Below.refl _ _).alloc (Nat.le_refl _) _
  have hr1 := h.kept hn1
  have hn1' := hn1
  have hg1 : W1.heap[w.heap.size]? = some (.cells #[.int .i64 0, .int .i64 0, .string (⟨#[]⟩ : ByteArray), .slice none 0 0] 42 (0, 0)) := by rw [hW1]; exact heap_alloc_last _ _
  have HG1 := Lib.hid hg1
  have HBL := Lib.hid hbl
  have c1 : (w.alloc (.cells #[.int .i64 0, .int .i64 0, .string (⟨#[]⟩ : ByteArray), .slice none 0 0] 42)).cell? ⟨b, 1, none⟩ = some (.int .i64 (p : Int)) := by rw [← hW1, Lib.cell_of_heap hr1]; rfl
  have HR1 := Lib.hid hr1
  have HN1 := Lib.hid hn1
  have HW1 := Lib.hid hW1
  have hx : ∀ W, ModB b W1 W → ModB b w W := fun W hm => (ModB.of_below hn1').trans hm
  have HX := Lib.hid hx
  have HIH := Lib.hid ih
  have H := Lib.hid h
  clear h hr1 hn1 hW1 ih hx hn1' hg1
  obtain ⟨r, hr⟩ : ∃ r, r = cellW s (decide (0 < d)) g p := ⟨_, rfl⟩
  rw [← hr]
  unfold cellW at hr
  have HR := Lib.hid hr
  clear hr
  go_enter Tryd.func66, Tryd.ntmps66
  go_wp2_with fail
  rw [← HW1.out]
  by_cases hsh : s.size < p + 1
  · refine (bytes_no b s p 1 W1 HR1.out hs hp hsh (by decide)).mono ?_
    rintro e W2 ⟨rfl, _, hm⟩
    have e0 : r = .bad s.size 3 := by rw [HR.out, if_pos hsh]
    rw [e0]
    exact ⟨rfl, (ModB.of_below HN1.out).trans hm, rfl⟩
  · have hr := HR.out
    rw [if_neg hsh] at hr
    have HR2 := Lib.hid hr
    clear HR hr
    refine (bytes_ok b s p 1 W1 HR1.out hs (by omega)).mono ?_
    rintro e W2 ⟨rfl, hr2, hm2⟩
    have HRD2 := Lib.hid hr2
    have HM2 := Lib.hid hm2
    clear hr2 hm2 HR1
    go_wp2_with fail
    rw [ext0 s p (by omega)]
    have hc256 := byteAt_lt s p
    obtain ⟨c, hc⟩ : ∃ c, c = byteAt s p := ⟨_, rfl⟩
    rw [← hc] at hc256 ⊢
    have hr := HR2.out
    rw [← hc] at hr
    have HC := Lib.hid hc
    have HR := Lib.hid hr
    clear hc hr HR2
    refine (first_calls c W2 hc256).mono ?_
    rintro e W ⟨rfl, rfl⟩
    by_cases hbad : c / 16 < 1 ∨ 4 < c / 16
    · rw [firstV_bad hbad]
      go_wp2_with fail
      refine (need_no _ _ _).mono ?_
      rintro e W' ⟨rfl, rfl⟩
      have e0 : r = .bad p 4 := by rw [HR.out]; exact if_pos hbad
      rw [e0]
      exact ⟨rfl, HX.out _ HM2.out, rfl⟩
    · have hr := HR.out
      rw [if_neg hbad] at hr
      have HR3 := Lib.hid hr
      clear HR hr
      have hk : c / 16 = 1 ∨ c / 16 = 2 ∨ c / 16 = 3 ∨ c / 16 = 4 := by omega
      clear hbad
      have m1 := meth_number
      have m2 := meth_word
      have m3 := meth_row
      rcases hk with hk | hk | hk | hk
      · have hv : firstV c = .iface 155 (.agg #[.bool false]) := by unfold firstV; rw [if_pos hk]
        have hmost := most_number false
        have hw8 : widthOf (c / 16) = 8 := by rw [hk]; rfl
        have hm8 : mostOf (c / 16) = 9223372036854775807 := by rw [hk]; rfl
        rw [hv]
        have HMO := Lib.hid hmost
        clear hmost hv
        go_wp2_with fail
        refine (need_ok _ _ _).mono ?_
        rintro e W' ⟨rfl, rfl⟩
        go_wp2_with fail
        refine (HMO.out _).mono ?_
        rintro e W3 ⟨rfl, hb3⟩
        have hr3 := HRD2.out.kept hb3
        have hm3 := HM2.out.trans (ModB.of_below hb3)
        have HRD3 := Lib.hid hr3
        have HM3 := Lib.hid hm3
        have hsz3 := hb3.size
        clear hb3 hr3 hm3 HRD2 HM2 m1 m2 m3
        go_wp2_with fail
        obtain ⟨n, hn⟩ : ∃ n, n = c % 16 := ⟨_, rfl⟩
        rw [show (c : Int) % 16 = (n : Int) by omega]
        have hr := HR3.out
        rw [← hn, hw8, hm8] at hr
        have HR := Lib.hid hr
        have hn16 : n ≤ 15 := by omega
        have HN := Lib.hid hn
        have HW8 := Lib.hid hw8
        have HK := Lib.hid hk
        clear hr HR3 hn hw8 hm8 hk
        by_cases hwd : 8 < n
        · rw [decide_eq_false (by omega : ¬ (n : Int) ≤ 8)]
          refine (need_no _ _ _).mono ?_
          rintro e W' ⟨rfl, rfl⟩
          have e0 : r = .bad p 4 := by rw [HR.out]; exact if_pos hwd
          rw [e0]
          exact ⟨rfl, HX.out _ HM3.out, rfl⟩
        · rw [decide_eq_true (by omega : (n : Int) ≤ 8)]
          have hr := HR.out
          rw [if_neg hwd] at hr
          have HR := Lib.hid hr
          clear hr
          refine (need_ok _ _ _).mono ?_
          rintro e W' ⟨rfl, rfl⟩
          go_wp2_with fail
          by_cases hd0 : 0 < d
          · have hr := HR.out
            rw [if_neg (by rw [decide_eq_true hd0]; decide)] at hr
            have HR := Lib.hid hr
            clear hr
            rw [decide_eq_true hd0]
            refine (need_ok _ _ _).mono ?_
            rintro e W' ⟨rfl, rfl⟩
            go_wp2_with fail
            by_cases hsh2 : s.size < p + 1 + n
            · refine (bytes_no b s (p + 1) n W' HRD3.out hs (by omega) hsh2 (by omega)).mono ?_
              rintro e W4 ⟨rfl, _, hm⟩
              have e0 : r = .bad s.size 3 := by rw [HR.out]; exact if_pos hsh2
              rw [e0]
              exact ⟨rfl, HX.out _ (HM3.out.trans hm), rfl⟩
            · have hr := HR.out
              rw [if_neg hsh2] at hr
              have HR := Lib.hid hr
              clear hr
              refine (bytes_ok b s (p + 1) n W' HRD3.out hs (by omega)).mono ?_
              rintro e W4 ⟨rfl, hr4, hm4⟩
              have hm4 := HM3.out.trans hm4
              have HRD4 := Lib.hid hr4
              have HM4 := Lib.hid hm4
              clear hr4 hm4 HRD3 HM3
              go_wp2_with fail
              rw [Lib.run_convert_string_bytes (P := Tryd.prog) W4 9 90 5 (s.extract (p + 1) (p + 1 + n)) Tryd.underlying9 Tryd.underlying90 Tryd.underlying5]
              simp only [Result.andThen]
              rw [Oper.upon_value]
              have hxs : (s.extract (p + 1) (p + 1 + n)).size = n := by rw [ByteArray.size_extract]; omega
              obtain ⟨W5, hW5⟩ : ∃ W5, W5 = Lib.bytesWorld W4 5 (s.extract (p + 1) (p + 1 + n)) := ⟨_, rfl⟩
              obtain ⟨gc, hgc⟩ : ∃ gc, gc = grownCap W4 (s.extract (p + 1) (p + 1 + n)).size 0 5 := ⟨_, rfl⟩
              obtain ⟨gb, hgb⟩ : ∃ gb, gb = W4.heap.size := ⟨_, rfl⟩
              rw [← hgc, ← hW5, hxs, ← hgb]
              have hb5 : Below W4.heap.size W4 W5 := by rw [hW5]; exact below_bytes _ _ _
              have hcell : ∀ j, j < n → W5.cell? ⟨gb, j, none⟩ = some (.int .u8 (byteAt s (p + 1 + j) : Int)) := fun j hj => by
                rw [hW5, hgb, Lib.bytesWorld_cell _ _ _ _ (by omega), ext_at s (p + 1) n j (by omega) hj]
              have hr5 := HRD4.out.kept hb5
              have hm5 := HM4.out.trans (ModB.of_below hb5)
              have hsz5 := Nat.le_trans (HM4.out.size) hb5.size
              have HCELL := Lib.hid hcell
              have HRD5 := Lib.hid hr5
              have HM5 := Lib.hid hm5
              clear hxs hW5 hgc hb5 hcell hr5 hm5 HRD4 HM4 hgb
              go_wp2_with fail
              go_loopw [11, 52] (fun k i wr => ∃ j : Nat, j ≤ n ∧ i = .int .i64 (j : Int) ∧ k = .int .u64 (numAt s (p + 1) j : Int) ∧ (0 < j → byteAt s (p + 1) ≠ 0) ∧ W5 = wr) (fun _ i _ => n - (intOf i).toNat)
              case atStart => exact ⟨0, Nat.zero_le _, rfl, rfl, fun h => absurd h (by decide), rfl⟩
              case round =>
                obtain ⟨j, hj, rfl, rfl, hnz, rfl⟩ := hrel
                by_cases hjn : j < n
                · have cj := HCELL.out j hjn
                  have hcl := byteAt_lt s (p + 1 + j)
                  have hnl := numAt_lt s (p + 1) j
                  have hor := or_byte s (p + 1) j (by omega)
                  obtain ⟨bj, hbj⟩ : ∃ bj, bj = byteAt s (p + 1 + j) := ⟨_, rfl⟩
                  obtain ⟨nj, hnj⟩ : ∃ nj, nj = numAt s (p + 1) j := ⟨_, rfl⟩
                  rw [← hbj] at cj hcl hor
                  rw [← hnj] at hnl hor ⊢
                  have hnl64 : nj * 256 + 255 < 18446744073709551616 := by
                    have : 256 ^ j ≤ 256 ^ 7 := Nat.pow_le_pow_right (by decide) (by omega)
                    have h7 : (256 : Nat) ^ 7 = 72057594037927936 := by decide
                    omega
                  have HBJ := Lib.hid hbj
                  have HNJ := Lib.hid hnj
                  have HOR := Lib.hid hor
                  clear hbj hnj hor
                  by_cases hj0 : 0 < j
                  · go_wp2_with fail
                    refine (need_ok _ _ _).mono ?_
                    rintro e W' ⟨rfl, rfl⟩
                    go_wp2_with fail
                    go_roundw
                    case rel => exact ⟨j + 1, by omega, by go_num, by rw [HOR.out], by have := HBJ.out; have := hnz; intro _; exact hnz hj0, trivial⟩
                    case measure => simp [intOf]; omega
                  · have hj00 : j = 0 := by omega
                    have hbz : bj = byteAt s (p + 1) := by rw [HBJ.out, hj00, Nat.add_zero]
                    have HBZ := Lib.hid hbz
                    clear hj00 hbz
                    by_cases hb0 : 0 < bj
                    · go_wp2_with fail
                      refine (need_ok _ _ _).mono ?_
                      rintro e W' ⟨rfl, rfl⟩
                      go_wp2_with fail
                      go_roundw
                      case rel => exact ⟨j + 1, by omega, by go_num, by rw [HOR.out], by have := HBJ.out; have := hnz; intro _; have := HBZ.out; omega, trivial⟩
                      case measure => simp [intOf]; omega
                    · have e0 : r = .bad p 4 := by rw [HR.out]; exact if_pos ⟨by omega, by have := HBZ.out; omega⟩
                      go_wp2_with fail
                      refine (need_no _ _ _).mono ?_
                      rintro e W' ⟨rfl, rfl⟩
                      subst e0
                      exact ⟨rfl, HX.out _ HM5.out, rfl⟩
                · have hjn' : j = n := by omega
                  have hr := HR.out
                  rw [if_neg (by rintro ⟨h1, h2⟩; exact hnz (by omega) h2)] at hr
                  have HR := Lib.hid hr
                  have HJN := Lib.hid hjn'
                  clear hr hjn'
                  obtain ⟨kk, hkk⟩ : ∃ kk, kk = numAt s (p + 1) j := ⟨_, rfl⟩
                  rw [← hkk]
                  have HKK := Lib.hid hkk
                  clear hkk
                  go_wp2_with fail
                  have hr := HR.out
                  rw [show numAt s (p + 1) n = kk by rw [HKK.out, HJN.out]] at hr
                  have HR := Lib.hid hr
                  clear hr
                  by_cases hmx : 9223372036854775807 < kk
                  · have e0 : r = .bad p 4 := by rw [HR.out]; exact if_pos hmx
                    rw [decide_eq_false (by omega : ¬ (kk : Int) ≤ 9223372036854775807)]
                    refine (need_no _ _ _).mono ?_
                    rintro e W' ⟨rfl, rfl⟩
                    subst e0
                    exact ⟨rfl, HX.out _ HM5.out, rfl⟩
                  · have hr := HR.out
                    rw [if_neg hmx] at hr
                    have HR := Lib.hid hr
                    clear hr
                    rw [decide_eq_true (by omega : (kk : Int) ≤ 9223372036854775807)]
                    refine (need_ok _ _ _).mono ?_
                    rintro e W' ⟨rfl, rfl⟩
                    have hnot : bits BinOp.xor IntKind.i64 (-1) (kk : Int) = -1 - (kk : Int) := i64_not kk (by omega)
                    have q1 := as_num
                    have q2 := as_word1
                    have q3 := as_word2
                    have q4 := as_row1
                    have q5 := as_row2
                    go_wp2_with fail
                    have hx6 : Below W'.heap.size W' (W'.alloc (.cells #[.bool false] 155)) := (Below.refl _ _).alloc (Nat.le_refl _) _
                    obtain ⟨W6, hW6⟩ : ∃ W6, W6 = W'.alloc (.cells #[.bool false] 155) := ⟨_, rfl⟩
                    rw [← hW6] at hx6 ⊢
                    clear hW6 q1 q2 q3 q4 q5
                    refine (cell_Num.calls (kk : Int) 1 (kk : Int) ⟨#[]⟩ [] W6 rfl).mono ?_
                    rintro e W7 ⟨v3, rfl, hR7, hb7⟩
                    have hbb := hx6.trans (hb7.mono hx6.size)
                    have hm7 := HM5.out.trans (ModB.of_below hbb)
                    have hr7 := HRD5.out.kept hbb
                    obtain ⟨A3, c3, rfl⟩ := R_slice hR7
                    have hg7 := (hm7.block _ (Array.getElem?_eq_some_iff.1 HG1.out).1 (by have := HBL.out; omega)).trans HG1.out
                    have z0 : W7.cell? ⟨w.heap.size, 0, none⟩ = some (.int .i64 0) := by rw [Lib.cell_of_heap hg7]; rfl
                    have z1 : W7.cell? ⟨w.heap.size, 1, none⟩ = some (.int .i64 0) := by rw [Lib.cell_of_heap hg7]; rfl
                    have z2 : W7.cell? ⟨w.heap.size, 2, none⟩ = some (.string (⟨#[]⟩ : ByteArray)) := by rw [Lib.cell_of_heap hg7]; rfl
                    have z3 : W7.cell? ⟨w.heap.size, 3, none⟩ = some (.slice none 0 0) := by rw [Lib.cell_of_heap hg7]; rfl
                    have f0 := Lib.frozen_of_heap hg7 0
                    have f1 := Lib.frozen_of_heap hg7 1
                    have f2 := Lib.frozen_of_heap hg7 2
                    have f3 := Lib.frozen_of_heap hg7 3
                    have HG7 := Lib.hid hg7
                    have HM7 := Lib.hid hm7
                    have HR7 := Lib.hid hr7
                    have HRR := Lib.hid hR7
                    have hsz6 : w.heap.size < W6.heap.size := by have := (Array.getElem?_eq_some_iff.1 HG1.out).1; have := HM5.out.size; have := hx6.size; omega
                    have HSZ6 := Lib.hid hsz6
                    clear hg7 hm7 hr7 hR7 hbb hx6 hb7 hsz6
                    go_wp2_with fail
                    obtain ⟨e1, e2, e3⟩ := fin_cell HBL.out (HX.out _ HM7.out) HR7.out HSZ6.out (Kd.R_mono (Kd.R_bound HRR.out) (fun k hk => by have := HBL.out; have := HSZ6.out; omega)) (.int .i64 1) (.int .i64 (kk : Int)) (.string (⟨#[]⟩ : ByteArray)) (.slice A3 0 c3)
                    have e0 : r = .ok ⟨1, (kk : Int), ⟨#[]⟩, []⟩ (p + 1 + n) := by rw [HR.out]; exact if_pos HK.out
                    refine bodyPost_ret (results_cell_row rfl _ _ w.heap.size 42 #[.int .i64 1, .int .i64 (kk : Int), .string (⟨#[]⟩ : ByteArray), .slice A3 0 c3] (0, 0) _ rfl (four_put HG7.out _ _ _ _) Tryd.underlying42 rfl (by kernel_rfl)) rfl ?_
                    rw [e0]
                    exact ⟨e1, ⟨_, rfl, e3⟩, e2, by omega, by omega⟩
          · have e0 : r = .bad p 5 := by rw [HR.out]; exact if_pos (by rw [decide_eq_false hd0])
            rw [decide_eq_false hd0]
            refine (need_no _ _ _).mono ?_
            rintro e W' ⟨rfl, rfl⟩
            rw [e0]
            exact ⟨rfl, HX.out _ HM3.out, rfl⟩
      · have hv : firstV c = .iface 155 (.agg #[.bool true]) := by unfold firstV; rw [if_neg (by omega), if_pos hk]
        have hmost := most_number true
        have hw8 : widthOf (c / 16) = 8 := by rw [hk]; rfl
        have hm8 : mostOf (c / 16) = 9223372036854775807 := by rw [hk]; rfl
        rw [hv]
        have HMO := Lib.hid hmost
        clear hmost hv
        go_wp2_with fail
        refine (need_ok _ _ _).mono ?_
        rintro e W' ⟨rfl, rfl⟩
        go_wp2_with fail
        refine (HMO.out _).mono ?_
        rintro e W3 ⟨rfl, hb3⟩
        have hr3 := HRD2.out.kept hb3
        have hm3 := HM2.out.trans (ModB.of_below hb3)
        have HRD3 := Lib.hid hr3
        have HM3 := Lib.hid hm3
        have hsz3 := hb3.size
        clear hb3 hr3 hm3 HRD2 HM2 m1 m2 m3
        go_wp2_with fail
        obtain ⟨n, hn⟩ : ∃ n, n = c % 16 := ⟨_, rfl⟩
        rw [show (c : Int) % 16 = (n : Int) by omega]
        have hr := HR3.out
        rw [← hn, hw8, hm8] at hr
        have HR := Lib.hid hr
        have hn16 : n ≤ 15 := by omega
        have HN := Lib.hid hn
        have HW8 := Lib.hid hw8
        have HK := Lib.hid hk
        clear hr HR3 hn hw8 hm8 hk
        by_cases hwd : 8 < n
        · rw [decide_eq_false (by omega : ¬ (n : Int) ≤ 8)]
          refine (need_no _ _ _).mono ?_
          rintro e W' ⟨rfl, rfl⟩
          have e0 : r = .bad p 4 := by rw [HR.out]; exact if_pos hwd
          rw [e0]
          exact ⟨rfl, HX.out _ HM3.out, rfl⟩
        · rw [decide_eq_true (by omega : (n : Int) ≤ 8)]
          have hr := HR.out
          rw [if_neg hwd] at hr
          have HR := Lib.hid hr
          clear hr
          refine (need_ok _ _ _).mono ?_
          rintro e W' ⟨rfl, rfl⟩
          go_wp2_with fail
          by_cases hd0 : 0 < d
          · have hr := HR.out
            rw [if_neg (by rw [decide_eq_true hd0]; decide)] at hr
            have HR := Lib.hid hr
            clear hr
            rw [decide_eq_true hd0]
            refine (need_ok _ _ _).mono ?_
            rintro e W' ⟨rfl, rfl⟩
            go_wp2_with fail
            by_cases hsh2 : s.size < p + 1 + n
            · refine (bytes_no b s (p + 1) n W' HRD3.out hs (by omega) hsh2 (by omega)).mono ?_
              rintro e W4 ⟨rfl, _, hm⟩
              have e0 : r = .bad s.size 3 := by rw [HR.out]; exact if_pos hsh2
              rw [e0]
              exact ⟨rfl, HX.out _ (HM3.out.trans hm), rfl⟩
            · have hr := HR.out
              rw [if_neg hsh2] at hr
              have HR := Lib.hid hr
              clear hr
              refine (bytes_ok b s (p + 1) n W' HRD3.out hs (by omega)).mono ?_
              rintro e W4 ⟨rfl, hr4, hm4⟩
              have hm4 := HM3.out.trans hm4
              have HRD4 := Lib.hid hr4
              have HM4 := Lib.hid hm4
              clear hr4 hm4 HRD3 HM3
              go_wp2_with fail
              rw [Lib.run_convert_string_bytes (P := Tryd.prog) W4 9 90 5 (s.extract (p + 1) (p + 1 + n)) Tryd.underlying9 Tryd.underlying90 Tryd.underlying5]
              simp only [Result.andThen]
              rw [Oper.upon_value]
              have hxs : (s.extract (p + 1) (p + 1 + n)).size = n := by rw [ByteArray.size_extract]; omega
              obtain ⟨W5, hW5⟩ : ∃ W5, W5 = Lib.bytesWorld W4 5 (s.extract (p + 1) (p + 1 + n)) := ⟨_, rfl⟩
              obtain ⟨gc, hgc⟩ : ∃ gc, gc = grownCap W4 (s.extract (p + 1) (p + 1 + n)).size 0 5 := ⟨_, rfl⟩
              obtain ⟨gb, hgb⟩ : ∃ gb, gb = W4.heap.size := ⟨_, rfl⟩
              rw [← hgc, ← hW5, hxs, ← hgb]
              have hb5 : Below W4.heap.size W4 W5 := by rw [hW5]; exact below_bytes _ _ _
              have hcell : ∀ j, j < n → W5.cell? ⟨gb, j, none⟩ = some (.int .u8 (byteAt s (p + 1 + j) : Int)) := fun j hj => by
                rw [hW5, hgb, Lib.bytesWorld_cell _ _ _ _ (by omega), ext_at s (p + 1) n j (by omega) hj]
              have hr5 := HRD4.out.kept hb5
              have hm5 := HM4.out.trans (ModB.of_below hb5)
              have hsz5 := Nat.le_trans (HM4.out.size) hb5.size
              have HCELL := Lib.hid hcell
              have HRD5 := Lib.hid hr5
              have HM5 := Lib.hid hm5
              clear hxs hW5 hgc hb5 hcell hr5 hm5 HRD4 HM4 hgb
              go_wp2_with fail
              go_loopw [11, 52] (fun k i wr => ∃ j : Nat, j ≤ n ∧ i = .int .i64 (j : Int) ∧ k = .int .u64 (numAt s (p + 1) j : Int) ∧ (0 < j → byteAt s (p + 1) ≠ 0) ∧ W5 = wr) (fun _ i _ => n - (intOf i).toNat)
              case atStart => exact ⟨0, Nat.zero_le _, rfl, rfl, fun h => absurd h (by decide), rfl⟩
              case round =>
                obtain ⟨j, hj, rfl, rfl, hnz, rfl⟩ := hrel
                by_cases hjn : j < n
                · have cj := HCELL.out j hjn
                  have hcl := byteAt_lt s (p + 1 + j)
                  have hnl := numAt_lt s (p + 1) j
                  have hor := or_byte s (p + 1) j (by omega)
                  obtain ⟨bj, hbj⟩ : ∃ bj, bj = byteAt s (p + 1 + j) := ⟨_, rfl⟩
                  obtain ⟨nj, hnj⟩ : ∃ nj, nj = numAt s (p + 1) j := ⟨_, rfl⟩
                  rw [← hbj] at cj hcl hor
                  rw [← hnj] at hnl hor ⊢
                  have hnl64 : nj * 256 + 255 < 18446744073709551616 := by
                    have : 256 ^ j ≤ 256 ^ 7 := Nat.pow_le_pow_right (by decide) (by omega)
                    have h7 : (256 : Nat) ^ 7 = 72057594037927936 := by decide
                    omega
                  have HBJ := Lib.hid hbj
                  have HNJ := Lib.hid hnj
                  have HOR := Lib.hid hor
                  clear hbj hnj hor
                  by_cases hj0 : 0 < j
                  · go_wp2_with fail
                    refine (need_ok _ _ _).mono ?_
                    rintro e W' ⟨rfl, rfl⟩
                    go_wp2_with fail
                    go_roundw
                    case rel => exact ⟨j + 1, by omega, by go_num, by rw [HOR.out], by have := HBJ.out; have := hnz; intro _; exact hnz hj0, trivial⟩
                    case measure => simp [intOf]; omega
                  · have hj00 : j = 0 := by omega
                    have hbz : bj = byteAt s (p + 1) := by rw [HBJ.out, hj00, Nat.add_zero]
                    have HBZ := Lib.hid hbz
                    clear hj00 hbz
                    by_cases hb0 : 0 < bj
                    · go_wp2_with fail
                      refine (need_ok _ _ _).mono ?_
                      rintro e W' ⟨rfl, rfl⟩
                      go_wp2_with fail
                      go_roundw
                      case rel => exact ⟨j + 1, by omega, by go_num, by rw [HOR.out], by have := HBJ.out; have := hnz; intro _; have := HBZ.out; omega, trivial⟩
                      case measure => simp [intOf]; omega
                    · have e0 : r = .bad p 4 := by rw [HR.out]; exact if_pos ⟨by omega, by have := HBZ.out; omega⟩
                      go_wp2_with fail
                      refine (need_no _ _ _).mono ?_
                      rintro e W' ⟨rfl, rfl⟩
                      subst e0
                      exact ⟨rfl, HX.out _ HM5.out, rfl⟩
                · have hjn' : j = n := by omega
                  have hr := HR.out
                  rw [if_neg (by rintro ⟨h1, h2⟩; exact hnz (by omega) h2)] at hr
                  have HR := Lib.hid hr
                  have HJN := Lib.hid hjn'
                  clear hr hjn'
                  obtain ⟨kk, hkk⟩ : ∃ kk, kk = numAt s (p + 1) j := ⟨_, rfl⟩
                  rw [← hkk]
                  have HKK := Lib.hid hkk
                  clear hkk
                  go_wp2_with fail
                  have hr := HR.out
                  rw [show numAt s (p + 1) n = kk by rw [HKK.out, HJN.out]] at hr
                  have HR := Lib.hid hr
                  clear hr
                  by_cases hmx : 9223372036854775807 < kk
                  · have e0 : r = .bad p 4 := by rw [HR.out]; exact if_pos hmx
                    rw [decide_eq_false (by omega : ¬ (kk : Int) ≤ 9223372036854775807)]
                    refine (need_no _ _ _).mono ?_
                    rintro e W' ⟨rfl, rfl⟩
                    subst e0
                    exact ⟨rfl, HX.out _ HM5.out, rfl⟩
                  · have hr := HR.out
                    rw [if_neg hmx] at hr
                    have HR := Lib.hid hr
                    clear hr
                    rw [decide_eq_true (by omega : (kk : Int) ≤ 9223372036854775807)]
                    refine (need_ok _ _ _).mono ?_
                    rintro e W' ⟨rfl, rfl⟩
                    have hnot : bits BinOp.xor IntKind.i64 (-1) (kk : Int) = -1 - (kk : Int) := i64_not kk (by omega)
                    have q1 := as_num
                    have q2 := as_word1
                    have q3 := as_word2
                    have q4 := as_row1
                    have q5 := as_row2
                    go_wp2_with fail
                    have hx6 : Below W'.heap.size W' (W'.alloc (.cells #[.bool true] 155)) := (Below.refl _ _).alloc (Nat.le_refl _) _
                    obtain ⟨W6, hW6⟩ : ∃ W6, W6 = W'.alloc (.cells #[.bool true] 155) := ⟨_, rfl⟩
                    rw [← hW6] at hx6 ⊢
                    clear hW6 q1 q2 q3 q4 q5
                    refine (cell_Num.calls (-1 - (kk : Int)) 1 (-1 - (kk : Int)) ⟨#[]⟩ [] W6 rfl).mono ?_
                    rintro e W7 ⟨v3, rfl, hR7, hb7⟩
                    have hbb := hx6.trans (hb7.mono hx6.size)
                    have hm7 := HM5.out.trans (ModB.of_below hbb)
                    have hr7 := HRD5.out.kept hbb
                    obtain ⟨A3, c3, rfl⟩ := R_slice hR7
                    have hg7 := (hm7.block _ (Array.getElem?_eq_some_iff.1 HG1.out).1 (by have := HBL.out; omega)).trans HG1.out
                    have z0 : W7.cell? ⟨w.heap.size, 0, none⟩ = some (.int .i64 0) := by rw [Lib.cell_of_heap hg7]; rfl
                    have z1 : W7.cell? ⟨w.heap.size, 1, none⟩ = some (.int .i64 0) := by rw [Lib.cell_of_heap hg7]; rfl
                    have z2 : W7.cell? ⟨w.heap.size, 2, none⟩ = some (.string (⟨#[]⟩ : ByteArray)) := by rw [Lib.cell_of_heap hg7]; rfl
                    have z3 : W7.cell? ⟨w.heap.size, 3, none⟩ = some (.slice none 0 0) := by rw [Lib.cell_of_heap hg7]; rfl
                    have f0 := Lib.frozen_of_heap hg7 0
                    have f1 := Lib.frozen_of_heap hg7 1
                    have f2 := Lib.frozen_of_heap hg7 2
                    have f3 := Lib.frozen_of_heap hg7 3
                    have HG7 := Lib.hid hg7
                    have HM7 := Lib.hid hm7
                    have HR7 := Lib.hid hr7
                    have HRR := Lib.hid hR7
                    have hsz6 : w.heap.size < W6.heap.size := by have := (Array.getElem?_eq_some_iff.1 HG1.out).1; have := HM5.out.size; have := hx6.size; omega
                    have HSZ6 := Lib.hid hsz6
                    clear hg7 hm7 hr7 hR7 hbb hx6 hb7 hsz6
                    go_wp2_with fail
                    obtain ⟨e1, e2, e3⟩ := fin_cell HBL.out (HX.out _ HM7.out) HR7.out HSZ6.out (Kd.R_mono (Kd.R_bound HRR.out) (fun k hk => by have := HBL.out; have := HSZ6.out; omega)) (.int .i64 1) (.int .i64 (-1 - (kk : Int))) (.string (⟨#[]⟩ : ByteArray)) (.slice A3 0 c3)
                    have e0 : r = .ok ⟨1, -1 - (kk : Int), ⟨#[]⟩, []⟩ (p + 1 + n) := by rw [HR.out]; rw [if_neg (by have := HK.out; omega)]; exact if_pos HK.out
                    refine bodyPost_ret (results_cell_row rfl _ _ w.heap.size 42 #[.int .i64 1, .int .i64 (-1 - (kk : Int)), .string (⟨#[]⟩ : ByteArray), .slice A3 0 c3] (0, 0) _ rfl (four_put HG7.out _ _ _ _) Tryd.underlying42 rfl (by kernel_rfl)) rfl ?_
                    rw [e0]
                    exact ⟨e1, ⟨_, rfl, e3⟩, e2, by omega, by omega⟩
          · have e0 : r = .bad p 5 := by rw [HR.out]; exact if_pos (by rw [decide_eq_false hd0])
            rw [decide_eq_false hd0]
            refine (need_no _ _ _).mono ?_
            rintro e W' ⟨rfl, rfl⟩
            rw [e0]
            exact ⟨rfl, HX.out _ HM3.out, rfl⟩
      · have hv : firstV c = .iface 157 (.agg #[]) := by unfold firstV; rw [if_neg (by omega), if_neg (by omega), if_pos hk]
        have hmost := most_word
        have hw8 : widthOf (c / 16) = 2 := by rw [hk]; rfl
        have hm8 : mostOf (c / 16) = 65535 := by rw [hk]; rfl
        rw [hv]
        have HMO := Lib.hid hmost
        clear hmost hv
        go_wp2_with fail
        refine (need_ok _ _ _).mono ?_
        rintro e W' ⟨rfl, rfl⟩
        go_wp2_with fail
        refine (HMO.out _).mono ?_
        rintro e W3 ⟨rfl, hb3⟩
        have hr3 := HRD2.out.kept hb3
        have hm3 := HM2.out.trans (ModB.of_below hb3)
        have HRD3 := Lib.hid hr3
        have HM3 := Lib.hid hm3
        have hsz3 := hb3.size
        clear hb3 hr3 hm3 HRD2 HM2 m1 m2 m3
        go_wp2_with fail
        obtain ⟨n, hn⟩ : ∃ n, n = c % 16 := ⟨_, rfl⟩
        rw [show (c : Int) % 16 = (n : Int) by omega]
        have hr := HR3.out
        rw [← hn, hw8, hm8] at hr
        have HR := Lib.hid hr
        have hn16 : n ≤ 15 := by omega
        have HN := Lib.hid hn
        have HW8 := Lib.hid hw8
        have HK := Lib.hid hk
        clear hr HR3 hn hw8 hm8 hk
        by_cases hwd : 2 < n
        · rw [decide_eq_false (by omega : ¬ (n : Int) ≤ 2)]
          refine (need_no _ _ _).mono ?_
          rintro e W' ⟨rfl, rfl⟩
          have e0 : r = .bad p 4 := by rw [HR.out]; exact if_pos hwd
          rw [e0]
          exact ⟨rfl, HX.out _ HM3.out, rfl⟩
        · rw [decide_eq_true (by omega : (n : Int) ≤ 2)]
          have hr := HR.out
          rw [if_neg hwd] at hr
          have HR := Lib.hid hr
          clear hr
          refine (need_ok _ _ _).mono ?_
          rintro e W' ⟨rfl, rfl⟩
          go_wp2_with fail
          by_cases hd0 : 0 < d
          · have hr := HR.out
            rw [if_neg (by rw [decide_eq_true hd0]; decide)] at hr
            have HR := Lib.hid hr
            clear hr
            rw [decide_eq_true hd0]
            refine (need_ok _ _ _).mono ?_
            rintro e W' ⟨rfl, rfl⟩
            go_wp2_with fail
            by_cases hsh2 : s.size < p + 1 + n
            · refine (bytes_no b s (p + 1) n W' HRD3.out hs (by omega) hsh2 (by omega)).mono ?_
              rintro e W4 ⟨rfl, _, hm⟩
              have e0 : r = .bad s.size 3 := by rw [HR.out]; exact if_pos hsh2
              rw [e0]
              exact ⟨rfl, HX.out _ (HM3.out.trans hm), rfl⟩
            · have hr := HR.out
              rw [if_neg hsh2] at hr
              have HR := Lib.hid hr
              clear hr
              refine (bytes_ok b s (p + 1) n W' HRD3.out hs (by omega)).mono ?_
              rintro e W4 ⟨rfl, hr4, hm4⟩
              have hm4 := HM3.out.trans hm4
              have HRD4 := Lib.hid hr4
              have HM4 := Lib.hid hm4
              clear hr4 hm4 HRD3 HM3
              go_wp2_with fail
              rw [Lib.run_convert_string_bytes (P := Tryd.prog) W4 9 90 5 (s.extract (p + 1) (p + 1 + n)) Tryd.underlying9 Tryd.underlying90 Tryd.underlying5]
              simp only [Result.andThen]
              rw [Oper.upon_value]
              have hxs : (s.extract (p + 1) (p + 1 + n)).size = n := by rw [ByteArray.size_extract]; omega
              obtain ⟨W5, hW5⟩ : ∃ W5, W5 = Lib.bytesWorld W4 5 (s.extract (p + 1) (p + 1 + n)) := ⟨_, rfl⟩
              obtain ⟨gc, hgc⟩ : ∃ gc, gc = grownCap W4 (s.extract (p + 1) (p + 1 + n)).size 0 5 := ⟨_, rfl⟩
              obtain ⟨gb, hgb⟩ : ∃ gb, gb = W4.heap.size := ⟨_, rfl⟩
              rw [← hgc, ← hW5, hxs, ← hgb]
              have hb5 : Below W4.heap.size W4 W5 := by rw [hW5]; exact below_bytes _ _ _
              have hcell : ∀ j, j < n → W5.cell? ⟨gb, j, none⟩ = some (.int .u8 (byteAt s (p + 1 + j) : Int)) := fun j hj => by
                rw [hW5, hgb, Lib.bytesWorld_cell _ _ _ _ (by omega), ext_at s (p + 1) n j (by omega) hj]
              have hr5 := HRD4.out.kept hb5
              have hm5 := HM4.out.trans (ModB.of_below hb5)
              have hsz5 := Nat.le_trans (HM4.out.size) hb5.size
              have HCELL := Lib.hid hcell
              have HRD5 := Lib.hid hr5
              have HM5 := Lib.hid hm5
              clear hxs hW5 hgc hb5 hcell hr5 hm5 HRD4 HM4 hgb
              go_wp2_with fail
              go_loopw [11, 52] (fun k i wr => ∃ j : Nat, j ≤ n ∧ i = .int .i64 (j : Int) ∧ k = .int .u64 (numAt s (p + 1) j : Int) ∧ (0 < j → byteAt s (p + 1) ≠ 0) ∧ W5 = wr) (fun _ i _ => n - (intOf i).toNat)
              case atStart => exact ⟨0, Nat.zero_le _, rfl, rfl, fun h => absurd h (by decide), rfl⟩
              case round =>
                obtain ⟨j, hj, rfl, rfl, hnz, rfl⟩ := hrel
                by_cases hjn : j < n
                · have cj := HCELL.out j hjn
                  have hcl := byteAt_lt s (p + 1 + j)
                  have hnl := numAt_lt s (p + 1) j
                  have hor := or_byte s (p + 1) j (by omega)
                  obtain ⟨bj, hbj⟩ : ∃ bj, bj = byteAt s (p + 1 + j) := ⟨_, rfl⟩
                  obtain ⟨nj, hnj⟩ : ∃ nj, nj = numAt s (p + 1) j := ⟨_, rfl⟩
                  rw [← hbj] at cj hcl hor
                  rw [← hnj] at hnl hor ⊢
                  have hnl64 : nj * 256 + 255 < 18446744073709551616 := by
                    have : 256 ^ j ≤ 256 ^ 7 := Nat.pow_le_pow_right (by decide) (by omega)
                    have h7 : (256 : Nat) ^ 7 = 72057594037927936 := by decide
                    omega
                  have HBJ := Lib.hid hbj
                  have HNJ := Lib.hid hnj
                  have HOR := Lib.hid hor
                  clear hbj hnj hor
                  by_cases hj0 : 0 < j
                  · go_wp2_with fail
                    refine (need_ok _ _ _).mono ?_
                    rintro e W' ⟨rfl, rfl⟩
                    go_wp2_with fail
                    go_roundw
                    case rel => exact ⟨j + 1, by omega, by go_num, by rw [HOR.out], by have := HBJ.out; have := hnz; intro _; exact hnz hj0, trivial⟩
                    case measure => simp [intOf]; omega
                  · have hj00 : j = 0 := by omega
                    have hbz : bj = byteAt s (p + 1) := by rw [HBJ.out, hj00, Nat.add_zero]
                    have HBZ := Lib.hid hbz
                    clear hj00 hbz
                    by_cases hb0 : 0 < bj
                    · go_wp2_with fail
                      refine (need_ok _ _ _).mono ?_
                      rintro e W' ⟨rfl, rfl⟩
                      go_wp2_with fail
                      go_roundw
                      case rel => exact ⟨j + 1, by omega, by go_num, by rw [HOR.out], by have := HBJ.out; have := hnz; intro _; have := HBZ.out; omega, trivial⟩
                      case measure => simp [intOf]; omega
                    · have e0 : r = .bad p 4 := by rw [HR.out]; exact if_pos ⟨by omega, by have := HBZ.out; omega⟩
                      go_wp2_with fail
                      refine (need_no _ _ _).mono ?_
                      rintro e W' ⟨rfl, rfl⟩
                      subst e0
                      exact ⟨rfl, HX.out _ HM5.out, rfl⟩
                · have hjn' : j = n := by omega
                  have hr := HR.out
                  rw [if_neg (by rintro ⟨h1, h2⟩; exact hnz (by omega) h2)] at hr
                  have HR := Lib.hid hr
                  have HJN := Lib.hid hjn'
                  clear hr hjn'
                  obtain ⟨kk, hkk⟩ : ∃ kk, kk = numAt s (p + 1) j := ⟨_, rfl⟩
                  rw [← hkk]
                  have HKK := Lib.hid hkk
                  clear hkk
                  go_wp2_with fail
                  have hr := HR.out
                  rw [show numAt s (p + 1) n = kk by rw [HKK.out, HJN.out]] at hr
                  have HR := Lib.hid hr
                  clear hr
                  by_cases hmx : 65535 < kk
                  · have e0 : r = .bad p 4 := by rw [HR.out]; exact if_pos hmx
                    rw [decide_eq_false (by omega : ¬ (kk : Int) ≤ 65535)]
                    refine (need_no _ _ _).mono ?_
                    rintro e W' ⟨rfl, rfl⟩
                    subst e0
                    exact ⟨rfl, HX.out _ HM5.out, rfl⟩
                  · have hr := HR.out
                    rw [if_neg hmx] at hr
                    have HR := Lib.hid hr
                    clear hr
                    rw [decide_eq_true (by omega : (kk : Int) ≤ 65535)]
                    refine (need_ok _ _ _).mono ?_
                    rintro e W' ⟨rfl, rfl⟩
                    have hnot : bits BinOp.xor IntKind.i64 (-1) (kk : Int) = -1 - (kk : Int) := i64_not kk (by omega)
                    have q1 := as_num
                    have q2 := as_word1
                    have q3 := as_word2
                    have q4 := as_row1
                    have q5 := as_row2
                    go_wp2_with fail
                    have hx6 : Below W'.heap.size W' (W'.alloc (.cells #[] 157)) := (Below.refl _ _).alloc (Nat.le_refl _) _
                    obtain ⟨W6, hW6⟩ : ∃ W6, W6 = W'.alloc (.cells #[] 157) := ⟨_, rfl⟩
                    rw [← hW6] at hx6 ⊢
                    clear hW6 q1 q2 q3 q4 q5
                    have hr6 := HRD5.out.kept hx6
                    have hm6 := HM5.out.trans (ModB.of_below hx6)
                    have hr := HR.out
                    rw [if_neg (by have := HK.out; omega), if_neg (by have := HK.out; omega), if_pos HK.out] at hr
                    by_cases hsh3 : s.size < p + 1 + n + kk
                    · refine (bytes_no b s (p + 1 + n) kk W6 hr6 hs (by omega) hsh3 (by omega)).mono ?_
                      rintro e W7 ⟨rfl, _, hm7⟩
                      have e0 : r = .bad s.size 3 := by rw [hr]; exact if_pos hsh3
                      subst e0
                      exact ⟨rfl, HX.out _ (hm6.trans hm7), rfl⟩
                    · rw [if_neg hsh3] at hr
                      refine (bytes_ok b s (p + 1 + n) kk W6 hr6 hs (by omega)).mono ?_
                      rintro e W8 ⟨rfl, hr8, hm8⟩
                      have hm8 := hm6.trans hm8
                      have HR8 := Lib.hid hr8
                      have HM8 := Lib.hid hm8
                      have HRF := Lib.hid hr
                      clear hr8 hm8 hm6 hr6 hr
                      go_wp2_with fail
                      refine (cell_Text.calls (s.extract (p + 1 + n) (p + 1 + n + kk)) 2 0 (s.extract (p + 1 + n) (p + 1 + n + kk)) [] W8 rfl).mono ?_
                      rintro e W7 ⟨v3, rfl, hR7, hbb⟩
                      have hm7 := HM8.out.trans (ModB.of_below hbb)
                      have hr7 := HR8.out.kept hbb
                      obtain ⟨A3, c3, rfl⟩ := R_slice hR7
                      have hg7 := (hm7.block _ (Array.getElem?_eq_some_iff.1 HG1.out).1 (by have := HBL.out; omega)).trans HG1.out
                      have z0 : W7.cell? ⟨w.heap.size, 0, none⟩ = some (.int .i64 0) := by rw [Lib.cell_of_heap hg7]; rfl
                      have z1 : W7.cell? ⟨w.heap.size, 1, none⟩ = some (.int .i64 0) := by rw [Lib.cell_of_heap hg7]; rfl
                      have z2 : W7.cell? ⟨w.heap.size, 2, none⟩ = some (.string (⟨#[]⟩ : ByteArray)) := by rw [Lib.cell_of_heap hg7]; rfl
                      have z3 : W7.cell? ⟨w.heap.size, 3, none⟩ = some (.slice none 0 0) := by rw [Lib.cell_of_heap hg7]; rfl
                      have f0 := Lib.frozen_of_heap hg7 0
                      have f1 := Lib.frozen_of_heap hg7 1
                      have f2 := Lib.frozen_of_heap hg7 2
                      have f3 := Lib.frozen_of_heap hg7 3
                      have HG7 := Lib.hid hg7
                      have HM7 := Lib.hid hm7
                      have HR7 := Lib.hid hr7
                      have HRR := Lib.hid hR7
                      have hsz6 : w.heap.size < W8.heap.size := by have := (Array.getElem?_eq_some_iff.1 HG1.out).1; have := HM8.out.size; omega
                      have HSZ6 := Lib.hid hsz6
                      clear hg7 hm7 hr7 hR7 hbb hx6 hsz6
                      go_wp2_with fail
                      obtain ⟨e1, e2, e3⟩ := fin_cell HBL.out (HX.out _ HM7.out) HR7.out HSZ6.out (Kd.R_mono (Kd.R_bound HRR.out) (fun k hk => by have := HBL.out; have := HSZ6.out; omega)) (.int .i64 2) (.int .i64 0) (.string (s.extract (p + 1 + n) (p + 1 + n + kk))) (.slice A3 0 c3)
                      have e0 : r = .ok ⟨2, 0, s.extract (p + 1 + n) (p + 1 + n + kk), []⟩ (p + 1 + n + kk) := HRF.out
                      refine bodyPost_ret (results_cell_row rfl _ _ w.heap.size 42 #[.int .i64 2, .int .i64 0, .string (s.extract (p + 1 + n) (p + 1 + n + kk)), .slice A3 0 c3] (0, 0) _ rfl (four_put HG7.out _ _ _ _) Tryd.underlying42 rfl (by kernel_rfl)) rfl ?_
                      rw [e0]
                      exact ⟨e1, ⟨_, rfl, e3⟩, e2, by omega, by omega⟩
          · have e0 : r = .bad p 5 := by rw [HR.out]; exact if_pos (by rw [decide_eq_false hd0])
            rw [decide_eq_false hd0]
            refine (need_no _ _ _).mono ?_
            rintro e W' ⟨rfl, rfl⟩
            rw [e0]
            exact ⟨rfl, HX.out _ HM3.out, rfl⟩
      · have hv : firstV c = .iface 166 (.agg #[]) := by unfold firstV; rw [if_neg (by omega), if_neg (by omega), if_neg (by omega), if_pos hk]
        have hmost := most_row
        have hw8 : widthOf (c / 16) = 2 := by rw [hk]; rfl
        have hm8 : mostOf (c / 16) = 4095 := by rw [hk]; rfl
        rw [hv]
        have HMO := Lib.hid hmost
        clear hmost hv
        go_wp2_with fail
        refine (need_ok _ _ _).mono ?_
        rintro e W' ⟨rfl, rfl⟩
        go_wp2_with fail
        refine (HMO.out _).mono ?_
        rintro e W3 ⟨rfl, hb3⟩
        have hr3 := HRD2.out.kept hb3
        have hm3 := HM2.out.trans (ModB.of_below hb3)
        have HRD3 := Lib.hid hr3
        have HM3 := Lib.hid hm3
        have hsz3 := hb3.size
        clear hb3 hr3 hm3 HRD2 HM2 m1 m2 m3
        go_wp2_with fail
        obtain ⟨n, hn⟩ : ∃ n, n = c % 16 := ⟨_, rfl⟩
        rw [show (c : Int) % 16 = (n : Int) by omega]
        have hr := HR3.out
        rw [← hn, hw8, hm8] at hr
        have HR := Lib.hid hr
        have hn16 : n ≤ 15 := by omega
        have HN := Lib.hid hn
        have HW8 := Lib.hid hw8
        have HK := Lib.hid hk
        clear hr HR3 hn hw8 hm8 hk
        by_cases hwd : 2 < n
        · rw [decide_eq_false (by omega : ¬ (n : Int) ≤ 2)]
          refine (need_no _ _ _).mono ?_
          rintro e W' ⟨rfl, rfl⟩
          have e0 : r = .bad p 4 := by rw [HR.out]; exact if_pos hwd
          rw [e0]
          exact ⟨rfl, HX.out _ HM3.out, rfl⟩
        · rw [decide_eq_true (by omega : (n : Int) ≤ 2)]
          have hr := HR.out
          rw [if_neg hwd] at hr
          have HR := Lib.hid hr
          clear hr
          refine (need_ok _ _ _).mono ?_
          rintro e W' ⟨rfl, rfl⟩
          go_wp2_with fail
          by_cases hd0 : 0 < d
          · have hr := HR.out
            rw [if_neg (by rw [decide_eq_true hd0]; decide)] at hr
            have HR := Lib.hid hr
            clear hr
            rw [decide_eq_true hd0]
            refine (need_ok _ _ _).mono ?_
            rintro e W' ⟨rfl, rfl⟩
            go_wp2_with fail
            by_cases hsh2 : s.size < p + 1 + n
            · refine (bytes_no b s (p + 1) n W' HRD3.out hs (by omega) hsh2 (by omega)).mono ?_
              rintro e W4 ⟨rfl, _, hm⟩
              have e0 : r = .bad s.size 3 := by rw [HR.out]; exact if_pos hsh2
              rw [e0]
              exact ⟨rfl, HX.out _ (HM3.out.trans hm), rfl⟩
            · have hr := HR.out
              rw [if_neg hsh2] at hr
              have HR := Lib.hid hr
              clear hr
              refine (bytes_ok b s (p + 1) n W' HRD3.out hs (by omega)).mono ?_
              rintro e W4 ⟨rfl, hr4, hm4⟩
              have hm4 := HM3.out.trans hm4
              have HRD4 := Lib.hid hr4
              have HM4 := Lib.hid hm4
              clear hr4 hm4 HRD3 HM3
              go_wp2_with fail
              rw [Lib.run_convert_string_bytes (P := Tryd.prog) W4 9 90 5 (s.extract (p + 1) (p + 1 + n)) Tryd.underlying9 Tryd.underlying90 Tryd.underlying5]
              simp only [Result.andThen]
              rw [Oper.upon_value]
              have hxs : (s.extract (p + 1) (p + 1 + n)).size = n := by rw [ByteArray.size_extract]; omega
              obtain ⟨W5, hW5⟩ : ∃ W5, W5 = Lib.bytesWorld W4 5 (s.extract (p + 1) (p + 1 + n)) := ⟨_, rfl⟩
              obtain ⟨gc, hgc⟩ : ∃ gc, gc = grownCap W4 (s.extract (p + 1) (p + 1 + n)).size 0 5 := ⟨_, rfl⟩
              obtain ⟨gb, hgb⟩ : ∃ gb, gb = W4.heap.size := ⟨_, rfl⟩
              rw [← hgc, ← hW5, hxs, ← hgb]
              have hb5 : Below W4.heap.size W4 W5 := by rw [hW5]; exact below_bytes _ _ _
              have hcell : ∀ j, j < n → W5.cell? ⟨gb, j, none⟩ = some (.int .u8 (byteAt s (p + 1 + j) : Int)) := fun j hj => by
                rw [hW5, hgb, Lib.bytesWorld_cell _ _ _ _ (by omega), ext_at s (p + 1) n j (by omega) hj]
              have hr5 := HRD4.out.kept hb5
              have hm5 := HM4.out.trans (ModB.of_below hb5)
              have hsz5 := Nat.le_trans (HM4.out.size) hb5.size
              have HCELL := Lib.hid hcell
              have HRD5 := Lib.hid hr5
              have HM5 := Lib.hid hm5
              clear hxs hW5 hgc hb5 hcell hr5 hm5 HRD4 HM4 hgb
              go_wp2_with fail
              go_loopw [11, 52] (fun k i wr => ∃ j : Nat, j ≤ n ∧ i = .int .i64 (j : Int) ∧ k = .int .u64 (numAt s (p + 1) j : Int) ∧ (0 < j → byteAt s (p + 1) ≠ 0) ∧ W5 = wr) (fun _ i _ => n - (intOf i).toNat)
              case atStart => exact ⟨0, Nat.zero_le _, rfl, rfl, fun h => absurd h (by decide), rfl⟩
              case round =>
                obtain ⟨j, hj, rfl, rfl, hnz, rfl⟩ := hrel
                by_cases hjn : j < n
                · have cj := HCELL.out j hjn
                  have hcl := byteAt_lt s (p + 1 + j)
                  have hnl := numAt_lt s (p + 1) j
                  have hor := or_byte s (p + 1) j (by omega)
                  obtain ⟨bj, hbj⟩ : ∃ bj, bj = byteAt s (p + 1 + j) := ⟨_, rfl⟩
                  obtain ⟨nj, hnj⟩ : ∃ nj, nj = numAt s (p + 1) j := ⟨_, rfl⟩
                  rw [← hbj] at cj hcl hor
                  rw [← hnj] at hnl hor ⊢
                  have hnl64 : nj * 256 + 255 < 18446744073709551616 := by
                    have : 256 ^ j ≤ 256 ^ 7 := Nat.pow_le_pow_right (by decide) (by omega)
                    have h7 : (256 : Nat) ^ 7 = 72057594037927936 := by decide
                    omega
                  have HBJ := Lib.hid hbj
                  have HNJ := Lib.hid hnj
                  have HOR := Lib.hid hor
                  clear hbj hnj hor
                  by_cases hj0 : 0 < j
                  · go_wp2_with fail
                    refine (need_ok _ _ _).mono ?_
                    rintro e W' ⟨rfl, rfl⟩
                    go_wp2_with fail
                    go_roundw
                    case rel => exact ⟨j + 1, by omega, by go_num, by rw [HOR.out], by have := HBJ.out; have := hnz; intro _; exact hnz hj0, trivial⟩
                    case measure => simp [intOf]; omega
                  · have hj00 : j = 0 := by omega
                    have hbz : bj = byteAt s (p + 1) := by rw [HBJ.out, hj00, Nat.add_zero]
                    have HBZ := Lib.hid hbz
                    clear hj00 hbz
                    by_cases hb0 : 0 < bj
                    · go_wp2_with fail
                      refine (need_ok _ _ _).mono ?_
                      rintro e W' ⟨rfl, rfl⟩
                      go_wp2_with fail
                      go_roundw
                      case rel => exact ⟨j + 1, by omega, by go_num, by rw [HOR.out], by have := HBJ.out; have := hnz; intro _; have := HBZ.out; omega, trivial⟩
                      case measure => simp [intOf]; omega
                    · have e0 : r = .bad p 4 := by rw [HR.out]; exact if_pos ⟨by omega, by have := HBZ.out; omega⟩
                      go_wp2_with fail
                      refine (need_no _ _ _).mono ?_
                      rintro e W' ⟨rfl, rfl⟩
                      subst e0
                      exact ⟨rfl, HX.out _ HM5.out, rfl⟩
                · have hjn' : j = n := by omega
                  have hr := HR.out
                  rw [if_neg (by rintro ⟨h1, h2⟩; exact hnz (by omega) h2)] at hr
                  have HR := Lib.hid hr
                  have HJN := Lib.hid hjn'
                  clear hr hjn'
                  obtain ⟨kk, hkk⟩ : ∃ kk, kk = numAt s (p + 1) j := ⟨_, rfl⟩
                  rw [← hkk]
                  have HKK := Lib.hid hkk
                  clear hkk
                  go_wp2_with fail
                  have hr := HR.out
                  rw [show numAt s (p + 1) n = kk by rw [HKK.out, HJN.out]] at hr
                  have HR := Lib.hid hr
                  clear hr
                  by_cases hmx : 4095 < kk
                  · have e0 : r = .bad p 4 := by rw [HR.out]; exact if_pos hmx
                    rw [decide_eq_false (by omega : ¬ (kk : Int) ≤ 4095)]
                    refine (need_no _ _ _).mono ?_
                    rintro e W' ⟨rfl, rfl⟩
                    subst e0
                    exact ⟨rfl, HX.out _ HM5.out, rfl⟩
                  · have hr := HR.out
                    rw [if_neg hmx] at hr
                    have HR := Lib.hid hr
                    clear hr
                    rw [decide_eq_true (by omega : (kk : Int) ≤ 4095)]
                    refine (need_ok _ _ _).mono ?_
                    rintro e W' ⟨rfl, rfl⟩
                    have hnot : bits BinOp.xor IntKind.i64 (-1) (kk : Int) = -1 - (kk : Int) := i64_not kk (by omega)
                    have q1 := as_num
                    have q2 := as_word1
                    have q3 := as_word2
                    have q4 := as_row1
                    have q5 := as_row2
                    go_wp2_with fail
                    clear q1 q2 q3 q4 q5 hnot
                    have hx6 : Below W'.heap.size W' (W'.alloc (.cells #[.int .i64 3, .int .i64 0, .string (⟨#[]⟩ : ByteArray), .slice none 0 0] 42)) := (Below.refl _ _).alloc (Nat.le_refl _) _
                    have hblk := heap_alloc_last W' (.cells #[.int .i64 3, .int .i64 0, .string (⟨#[]⟩ : ByteArray), .slice none 0 0] 42)
                    obtain ⟨W6, hW6⟩ : ∃ W6, W6 = W'.alloc (.cells #[.int .i64 3, .int .i64 0, .string (⟨#[]⟩ : ByteArray), .slice none 0 0] 42) := ⟨_, rfl⟩
                    rw [← hW6] at hx6 hblk ⊢
                    obtain ⟨gO, hgO⟩ : ∃ gO, gO = W'.heap.size := ⟨_, rfl⟩
                    rw [← hgO] at hblk ⊢
                    have hout : OutAt W1 b gO s (.slice none 0 0) [] (p + 1 + n) W6 := ⟨HM5.out.trans (ModB.of_below hx6), by rw [hgO]; exact HM5.out.size, by have := (Array.getElem?_eq_some_iff.1 HG1.out).1; have := HBL.out; omega, hblk, Kd.R_nil _ _ _ _ _, HRD5.out.kept hx6⟩
                    have hr := HR.out
                    rw [if_neg (by have := HK.out; omega), if_neg (by have := HK.out; omega), if_neg (by have := HK.out; omega)] at hr
                    have hgw : w.heap.size < gO := by have := (Array.getElem?_eq_some_iff.1 HG1.out).1; have := HM5.out.size; omega
                    have HRF := Lib.hid hr
                    have HO := Lib.hid hout
                    have HGW := Lib.hid hgw
                    clear hr hout hW6 hx6 hblk hgO hgw HM5 HRD5 HCELL
                    go_loopw [100] (fun i wr => ∃ (m : Nat) (v : Value) (acc : List S42) (q : Nat), m ≤ kk ∧ i = .int .i64 (m : Int) ∧ acc.length = m ∧ OutAt W1 b gO s v acc q wr ∧ p + 1 + n ≤ q ∧ q ≤ s.size ∧ manyW g (kk - m) q acc = manyW g kk (p + 1 + n) []) (fun i _ => kk - (intOf i).toNat)
                    case atStart => exact ⟨0, _, [], p + 1 + n, Nat.zero_le _, rfl, rfl, HO.out, Nat.le_refl _, by omega, rfl⟩
                    case round =>
                      obtain ⟨m, v, acc, q, hm, rfl, hal, hout, hq1, hq2, hman⟩ := hrel
                      by_cases hmk : m < kk
                      · rw [show kk - m = (kk - (m + 1)) + 1 by omega, manyW] at hman
                        obtain ⟨A, cp, rfl⟩ := R_slice hout.row
                        have hcall := HIH.out hd0 q
                        have c3 : wr.cell? ⟨gO, 3, none⟩ = some (.slice A acc.length cp) := by rw [Lib.cell_of_heap hout.blk]; rfl
                        cases hgq : g q with
                        | bad p' e' =>
                          rw [hgq] at hcall hman
                          have e0 : r = .bad p' e' := by rw [HRF.out, ← hman]
                          have HCALL := Lib.hid (hcall wr.drew hout.rd hq2)
                          have HMW := Lib.hid hout.mod
                          clear hcall hman hgq hal hout HRF HR
                          subst e0
                          go_wp2_with fail
                          refine' wp_region_factsP (S := (fun _ W => W = wr.drew)) (fun _ => ModB b) [eqM (.pointer (some ⟨gO, 3, none⟩)), eqM (.slice A acc.length cp), eqM (.pointer (some ⟨b, 0, none⟩)), eqM (.int .i64 (d : Int)), eqM (.int .i64 ((d : Int) - 1)), badM, badM, eqM undef] (by kernel_rfl) (by kernel_rfl) ?hst ?h0 (Ord.stepsP_cons ?s0 (Ord.stepsP_cons ?s1 (Ord.stepsP_cons ?s2 (Ord.stepsP_cons ?s3 (Ord.stepsP_cons ?s4 (Ord.stepsP_bad ?s5 (Ord.stepsP_bad ?s6 (Ord.stepsP_cons ?s7 (Ord.stepsP_nil))))))))) ?fin
                          case s0 =>
                            intro g W L hL hSW hd
                            try simp only [Nat.zero_add, Nat.reduceAdd] at hd ⊢
                            with_reducible refine OpGives.pre_reads [] 113 ?_ ?_ ?_
                            · rfl
                            · kernel_rfl
                            simp only [List.map_cons, List.map_nil]
                            subst hSW; refine OpGives.val (v := .pointer (some ⟨gO, 3, none⟩)) (w' := wr.drew) ?_ ⟨ModB.refl b _, rfl, rfl⟩; go_simp
                          case s1 =>
                            intro g W L hL hSW hd
                            try simp only [Nat.zero_add, Nat.reduceAdd] at hd ⊢
                            have h0 : g 0 = _ := hd 0 (by decide) (by kernel_rfl)
                            with_reducible refine OpGives.pre_reads [(102, 0)] 113 ?_ ?_ ?_
                            · rfl
                            · kernel_rfl
                            simp only [List.map_cons, List.map_nil]
                            subst hSW; refine OpGives.val (v := .slice A acc.length cp) (w' := wr.drew) ?_ ⟨ModB.refl b _, rfl, rfl⟩; go_simp
                          case s2 =>
                            intro g W L hL hSW hd
                            try simp only [Nat.zero_add, Nat.reduceAdd] at hd ⊢
                            with_reducible refine OpGives.pre_reads [] 113 ?_ ?_ ?_
                            · rfl
                            · kernel_rfl
                            simp only [List.map_cons, List.map_nil]
                            refine OpGives.val (w' := W) ?_ ⟨ModB.refl b _, rfl, hSW⟩
                            go_simp
                            try with_reducible rfl
                          case s3 =>
                            intro g W L hL hSW hd
                            try simp only [Nat.zero_add, Nat.reduceAdd] at hd ⊢
                            with_reducible refine OpGives.pre_reads [] 113 ?_ ?_ ?_
                            · rfl
                            · kernel_rfl
                            simp only [List.map_cons, List.map_nil]
                            refine OpGives.val (w' := W) ?_ ⟨ModB.refl b _, rfl, hSW⟩
                            go_simp
                            try with_reducible rfl
                          case s4 =>
                            intro g W L hL hSW hd
                            try simp only [Nat.zero_add, Nat.reduceAdd] at hd ⊢
                            have h3 : g 3 = _ := hd 3 (by decide) (by kernel_rfl)
                            with_reducible refine OpGives.pre_reads [(105, 3)] 113 ?_ ?_ ?_
                            · rfl
                            · kernel_rfl
                            simp only [List.map_cons, List.map_nil]
                            subst hSW; refine OpGives.val (v := .int .i64 ((d : Int) - 1)) (w' := wr.drew) ?_ ⟨ModB.refl b _, rfl, rfl⟩; go_simp; rw [IntKind.wrap_i64]; omega
                          case s5 =>
                            intro g W L hL hSW hd
                            try simp only [Nat.zero_add, Nat.reduceAdd] at hd ⊢
                            have h2 : g 2 = _ := hd 2 (by decide) (by kernel_rfl)
                            have h4 : g 4 = _ := hd 4 (by decide) (by kernel_rfl)
                            with_reducible refine OpBad.pre_reads [(104, 2), (106, 4)] 113 ?_ ?_ ?_
                            · rfl
                            · kernel_rfl
                            simp only [List.map_cons, List.map_nil]
                            subst hSW; refine OpBad.call (f := 66) (args := #[.pointer (some ⟨b, 0, none⟩), .int .i64 ((d : Int) - 1)]) (w' := wr.drew) (by go_simp) (HCALL.out.mono fun e w9 he => ⟨_, he.2, fun a ha => ⟨ha, HX.out _ (HMW.out.trans ((ModB.refl b _).drew.trans he.1)), rfl⟩⟩)
                          case s6 =>
                            intro g W L hL hSW hd
                            try simp only [Nat.zero_add, Nat.reduceAdd] at hd ⊢
                            have h5 := hd 5 (by decide) (by kernel_rfl)
                            change (badM) (g 5) W at h5
                            with_reducible refine OpBad.pre_reads [(107, 5)] 113 ?_ ?_ ?_
                            · rfl
                            · kernel_rfl
                            simp only [List.map_cons, List.map_nil]
                            exact h5.elim
                          case s7 =>
                            intro g W L hL hSW hd
                            try simp only [Nat.zero_add, Nat.reduceAdd] at hd ⊢
                            have h1 : g 1 = _ := hd 1 (by decide) (by kernel_rfl)
                            have h6 := hd 6 (by decide) (by kernel_rfl)
                            change (badM) (g 6) W at h6
                            with_reducible refine OpGives.pre_reads [(103, 1), (108, 6)] 113 ?_ ?_ ?_
                            · rfl
                            · kernel_rfl
                            simp only [List.map_cons, List.map_nil]
                            exact h6.elim
                          case hst => exact facts_bad
                          case h0 => rfl
                          case fin => exact fun v W L hL hSW hf => (hf 5 (Nat.lt_of_lt_of_eq (by decide : 5 < 8) rfl)).elim
                        | ok x q' =>
                          rw [hgq] at hcall hman
                          have hvl : ∀ k, (Value.slice A acc.length cp).ownBlock = some k → k < wr.heap.size := fun k hk => (own_lt_R hout.row k hk).2.2
                          have hvg : ∀ k, (Value.slice A acc.length cp).ownBlock = some k → gO < k := fun k hk => (own_lt_R hout.row k hk).1
                          have hgl : gO < wr.heap.size := (Array.getElem?_eq_some_iff.1 hout.blk).1
                          have hbl2 : b < wr.heap.size := Nat.lt_of_lt_of_le hout.lt (Nat.le_trans hout.ge (Nat.le_of_lt hgl))
                          have hbg : b ≠ gO := by have := hout.lt; have := hout.ge; omega
                          have hin : InR wr b gO s (.slice A acc.length cp) acc q q' (fun _ => false) wr.drew := ⟨ModV.drew, fun _ => Kd.R_below hout.row ((Below.refl _ _).drew), fun _ => hout.rd, fun e => (by cases e)⟩
                          have hq'2 : q ≤ q' ∧ q' ≤ s.size ∨ True := .inr trivial
                          have HC := Lib.hid (fun W (hrd : RdAt b s q W) => hcall W hrd hq2)
                          have HIN := Lib.hid hin
                          have HVL := Lib.hid hvl
                          have HVG := Lib.hid hvg
                          have HGL := Lib.hid hgl
                          have HBL2 := Lib.hid hbl2
                          have HBG := Lib.hid hbg
                          have HOUT := Lib.hid hout
                          have HMAN := Lib.hid hman
                          have HAL := Lib.hid hal
                          clear hcall hman hgq hal hout hvl hvg hgl hbl2 hbg hin hq'2
                          go_wp2_with fail
                          refine' wp_region_factsM (S := (InR wr b gO s (.slice A acc.length cp) acc q q')) (Rr b (.slice A acc.length cp)) [eqM (.pointer (some ⟨gO, 3, none⟩)), eqM (.slice A acc.length cp), eqM (.pointer (some ⟨b, 0, none⟩)), eqM (.int .i64 (d : Int)), eqM (.int .i64 ((d : Int) - 1)), childP b (.slice A acc.length cp) x wr.heap.size, litP b (.slice A acc.length cp) x wr.heap.size, rowP b gO (acc ++ [x])] (by kernel_rfl) (by kernel_rfl) ?hst ?h0 (Ord.stepsM_cons ?s0 (Ord.stepsM_cons ?s1 (Ord.stepsM_cons ?s2 (Ord.stepsM_cons ?s3 (Ord.stepsM_cons ?s4 (Ord.stepsM_cons ?s5 (Ord.stepsM_cons ?s6 (Ord.stepsM_cons ?s7 (Ord.stepsM_nil))))))))) ?fin
                          case s0 =>
                            intro g W L hL hSW hd
                            try simp only [Nat.zero_add, Nat.reduceAdd] at hd ⊢
                            with_reducible refine OpGives.pre_reads [] 113 ?_ ?_ ?_
                            · rfl
                            · kernel_rfl
                            simp only [List.map_cons, List.map_nil]
                            refine OpGives.val (v := .pointer (some ⟨gO, 3, none⟩)) (w' := W) ?_ ⟨Rr.of_B (by decide) (ModB.refl b _), rfl, hSW⟩; go_simp
                          case s1 =>
                            intro g W L hL hSW hd
                            try simp only [Nat.zero_add, Nat.reduceAdd] at hd ⊢
                            have h0 : g 0 = _ := hd 0 (by decide) (by kernel_rfl)
                            with_reducible refine OpGives.pre_reads [(102, 0)] 113 ?_ ?_ ?_
                            · rfl
                            · kernel_rfl
                            simp only [List.map_cons, List.map_nil]
                            have c1 : W.cell? ⟨gO, 3, none⟩ = some (.slice A acc.length cp) := (by rw [Lib.cell_of_heap ((hSW.1.block gO HGL.out (Ne.symm HBG.out) (fun e => Nat.lt_irrefl _ (HVG.out _ e))).trans HOUT.out.blk)]; rfl); refine OpGives.val (v := .slice A acc.length cp) (w' := W) ?_ ⟨Rr.of_B (by decide) (ModB.refl b _), rfl, hSW⟩; go_simp
                          case s2 =>
                            intro g W L hL hSW hd
                            try simp only [Nat.zero_add, Nat.reduceAdd] at hd ⊢
                            with_reducible refine OpGives.pre_reads [] 113 ?_ ?_ ?_
                            · rfl
                            · kernel_rfl
                            simp only [List.map_cons, List.map_nil]
                            refine OpGives.val (w' := W) ?_ ⟨Rr.of_B (by decide) (ModB.refl b _), rfl, hSW⟩
                            go_simp
                            try with_reducible rfl
                          case s3 =>
                            intro g W L hL hSW hd
                            try simp only [Nat.zero_add, Nat.reduceAdd] at hd ⊢
                            with_reducible refine OpGives.pre_reads [] 113 ?_ ?_ ?_
                            · rfl
                            · kernel_rfl
                            simp only [List.map_cons, List.map_nil]
                            refine OpGives.val (w' := W) ?_ ⟨Rr.of_B (by decide) (ModB.refl b _), rfl, hSW⟩
                            go_simp
                            try with_reducible rfl
                          case s4 =>
                            intro g W L hL hSW hd
                            try simp only [Nat.zero_add, Nat.reduceAdd] at hd ⊢
                            have h3 : g 3 = _ := hd 3 (by decide) (by kernel_rfl)
                            with_reducible refine OpGives.pre_reads [(105, 3)] 113 ?_ ?_ ?_
                            · rfl
                            · kernel_rfl
                            simp only [List.map_cons, List.map_nil]
                            refine OpGives.val (v := .int .i64 ((d : Int) - 1)) (w' := W) ?_ ⟨Rr.of_B (by decide) (ModB.refl b _), rfl, hSW⟩; go_simp; rw [IntKind.wrap_i64]; omega
                          case s5 =>
                            intro g W L hL hSW hd
                            try simp only [Nat.zero_add, Nat.reduceAdd] at hd ⊢
                            have h2 : g 2 = _ := hd 2 (by decide) (by kernel_rfl)
                            have h4 : g 4 = _ := hd 4 (by decide) (by kernel_rfl)
                            with_reducible refine OpGives.pre_reads [(104, 2), (106, 4)] 113 ?_ ?_ ?_
                            · rfl
                            · kernel_rfl
                            simp only [List.map_cons, List.map_nil]
                            refine OpGives.call (f := 66) (args := #[.pointer (some ⟨b, 0, none⟩), .int .i64 ((d : Int) - 1)]) (w' := W) (by go_simp) ((HC.out W (hSW.2.2.1 hL)).mono fun e w9 hp => call_post hSW HBL2.out HVL.out hp)
                          case s6 =>
                            intro g W L hL hSW hd
                            try simp only [Nat.zero_add, Nat.reduceAdd] at hd ⊢
                            have h5 := hd 5 (by decide) (by kernel_rfl)
                            change (childP b (.slice A acc.length cp) x wr.heap.size) (g 5) W at h5
                            with_reducible refine OpGives.pre_reads [(107, 5)] 113 ?_ ?_ ?_
                            · rfl
                            · kernel_rfl
                            simp only [List.map_cons, List.map_nil]
                            obtain ⟨v3, e5, hR5⟩ := h5; obtain ⟨A3, c3', rfl⟩ := R_slice hR5; rw [e5]; refine OpGives.val (v := .slice (some ⟨W.heap.size, 0, none⟩) 1 1) (w' := W.alloc (.cells #[.int .i64 x.f0, .int .i64 x.f1, .string x.f2, .slice A3 x.f3.length c3'] 42)) ?_ (lit_post hSW HBL2.out HVL.out rfl hR5); go_simp
                          case s7 =>
                            intro g W L hL hSW hd
                            try simp only [Nat.zero_add, Nat.reduceAdd] at hd ⊢
                            have h1 : g 1 = _ := hd 1 (by decide) (by kernel_rfl)
                            have h6 := hd 6 (by decide) (by kernel_rfl)
                            change (litP b (.slice A acc.length cp) x wr.heap.size) (g 6) W at h6
                            with_reducible refine OpGives.pre_reads [(103, 1), (108, 6)] 113 ?_ ?_ ?_
                            · rfl
                            · kernel_rfl
                            simp only [List.map_cons, List.map_nil]
                            obtain ⟨v', W', hr, hg, hrow, hS'⟩ := append_cell hSW hL HBL2.out HGL.out HGL.out (fun k hk => Nat.lt_of_lt_of_le HGL.out hk) h6 (by have := HAL.out; omega) 40; rw [← h1] at hr; exact OpGives.val (v := v') (w' := W') (exec_append _ _ _ rfl hr) ⟨Rr.of_grown hg, hrow, hS'⟩
                          case hst => exact facts_st
                          case h0 => exact HIN.out
                          case fin =>
                            intro v W L hL hSW hf
                            have h0 : v 0 = _ := hf 0 (Nat.lt_of_lt_of_eq (by decide : 0 < 8) rfl)
                            have h7 : rowP b gO (acc ++ [x]) (v 7) W := hf 7 (Nat.lt_of_lt_of_eq (by decide : 7 < 8) rfl)
                            clear hf
                            have hrd := hSW.2.2.2 (hL 5 (Nat.lt_of_lt_of_eq (by decide : 5 < 8) rfl))
                            have hmv := hSW.1
                            generalize hF : Ord.pre _ _ v _ = F
                            rw [Ord.pre_lit [some 102, some 103, some 104, some 105, some 106, some 107, some 108, some 109]
                              (by kernel_rfl)] at hF
                            simp only [Ord.puts, Nat.zero_add, Nat.reduceAdd] at hF
                            subst hF
                            obtain ⟨A7, c7, e7⟩ := R_slice h7
                            rw [e7] at h7 ⊢
                            have hblk := (hmv.block gO HGL.out (Ne.symm HBG.out) (fun e => Nat.lt_irrefl _ (HVG.out _ e))).trans HOUT.out.blk
                            have hdone := out_step HOUT.out hmv h7 hrd.1
                            have d3 : W.cell? ⟨gO, 3, none⟩ = some (.slice A acc.length cp) := by rw [Lib.cell_of_heap hblk]; rfl
                            have f3 := Lib.frozen_of_heap hblk 3
                            have hq12 := hrd.2
                            have HD := Lib.hid hdone
                            clear hblk hdone hmv hrd h7 e7 hSW hL
                            rw [h0]
                            clear h0
                            refine any_one (i := 8) (by kernel_rfl) ?_
                            refine wpOp_value (v := .pointer (some ⟨gO, 3, none⟩)) (w' := W) rfl rfl (by go_simp) ?_
                            refine any_one (i := 9) (by kernel_rfl) ?_
                            refine wpOp_skip (w' := W.setCell ⟨gO, 3, none⟩ (.slice A7 (acc ++ [x]).length c7)) rfl rfl (by go_simp) ?_
                            refine wpAny_done (by kernel_rfl) ?_ _
                            try simp only [List.getElem_toArray, List.getElem_cons_succ, List.getElem_cons_zero]
                            go_frame
                            clear d3 f3 c3
                            generalize W.setCell ⟨gO, 3, none⟩ (.slice A7 (acc ++ [x]).length c7) = W8 at *
                            go_wp2_with fail
                            go_roundw
                            case rel => exact ⟨m + 1, _, acc ++ [x], q', by omega, by go_num, by have := HAL.out; simp; omega, HD.out, by omega, hq12.2, HMAN.out⟩
                            case measure => simp [intOf]; omega
                      · have hmk' : m = kk := by omega
                        rw [hmk', Nat.sub_self, manyW] at hman
                        have e0 : r = .ok ⟨3, 0, ⟨#[]⟩, acc⟩ q := by rw [HRF.out, ← hman]
                        obtain ⟨A, cp, rfl⟩ := R_slice hout.row
                        have hg7 := (hout.mod.block _ (Array.getElem?_eq_some_iff.1 HG1.out).1 (by have := HBL.out; omega)).trans HG1.out
                        have z0 : wr.cell? ⟨w.heap.size, 0, none⟩ = some (.int .i64 0) := by rw [Lib.cell_of_heap hg7]; rfl
                        have z1 : wr.cell? ⟨w.heap.size, 1, none⟩ = some (.int .i64 0) := by rw [Lib.cell_of_heap hg7]; rfl
                        have z2 : wr.cell? ⟨w.heap.size, 2, none⟩ = some (.string (⟨#[]⟩ : ByteArray)) := by rw [Lib.cell_of_heap hg7]; rfl
                        have z3 : wr.cell? ⟨w.heap.size, 3, none⟩ = some (.slice none 0 0) := by rw [Lib.cell_of_heap hg7]; rfl
                        have f0 := Lib.frozen_of_heap hg7 0
                        have f1 := Lib.frozen_of_heap hg7 1
                        have f2 := Lib.frozen_of_heap hg7 2
                        have f3 := Lib.frozen_of_heap hg7 3
                        have y0 : wr.cell? ⟨gO, 0, none⟩ = some (.int .i64 3) := by rw [Lib.cell_of_heap hout.blk]; rfl
                        have y1 : wr.cell? ⟨gO, 1, none⟩ = some (.int .i64 0) := by rw [Lib.cell_of_heap hout.blk]; rfl
                        have y2 : wr.cell? ⟨gO, 2, none⟩ = some (.string (⟨#[]⟩ : ByteArray)) := by rw [Lib.cell_of_heap hout.blk]; rfl
                        have y3 : wr.cell? ⟨gO, 3, none⟩ = some (.slice A acc.length cp) := by rw [Lib.cell_of_heap hout.blk]; rfl
                        have HG7 := Lib.hid hg7
                        have HOUT := Lib.hid hout
                        clear hg7 hout hman hmk' HRF HR hal
                        subst e0
                        go_wp2_with fail
                        obtain ⟨e1, e2, e3⟩ := fin_cell HBL.out (HX.out _ HOUT.out.mod) HOUT.out.rd (Nat.lt_succ_of_lt HGW.out) (Kd.R_mono HOUT.out.row (fun k hk => hk.1)) (.int .i64 3) (.int .i64 0) (.string (⟨#[]⟩ : ByteArray)) (.slice A acc.length cp)
                        refine bodyPost_ret (results_cell_row rfl _ _ w.heap.size 42 #[.int .i64 3, .int .i64 0, .string (⟨#[]⟩ : ByteArray), .slice A acc.length cp] (0, 0) _ rfl (four_put HG7.out _ _ _ _) Tryd.underlying42 rfl (by kernel_rfl)) rfl ?_
                        exact ⟨e1, ⟨_, rfl, e3⟩, e2, by omega, hq2⟩
          · have e0 : r = .bad p 5 := by rw [HR.out]; exact if_pos (by rw [decide_eq_false hd0])
            rw [decide_eq_false hd0]
            refine (need_no _ _ _).mono ?_
            rintro e W' ⟨rfl, rfl⟩
            rw [e0]
            exact ⟨rfl, HX.out _ HM3.out, rfl⟩
/-- The reader's cell, to any depth that is asked. -/
theorem cell_calls (s : ByteArray) (hs : s.size ≤ 140737488355328) (b : Nat) : ∀ (d : Nat), d ≤ 40 → ∀ (p : Nat) (w : World), RdAt b s p w → p ≤ s.size →
    Calls Tryd.prog 66 #[.pointer (some ⟨b, 0, none⟩), .int .i64 (d : Int)] w (CellPost (cellD s d p) b s p w)
  | 0, _, p, w, h, hp => by
    have := cell_step 0 (by decide) s hs b (fun _ => .bad 0 0) (fun h0 => absurd h0 (by decide)) p w h hp
    rw [show decide (0 < 0) = false by rfl] at this
    exact this
  | d + 1, hd, p, w, h, hp => by
    have ih := cell_calls s hs b d (by omega)
    have := cell_step (d + 1) hd s hs b (cellD s d) (fun _ p w h hp => by
      rw [show (((d + 1 : Nat) : Int) - 1) = (d : Int) by omega]
      exact ih p w h hp) p w h hp
    rw [show decide (0 < d + 1) = true by simp] at this
    exact this
end Go.Proofs.YtgjlchcfdbmmlaaDoor.PObjectTakes
