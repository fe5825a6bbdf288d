/- A region that draws its order, by what each operation gives: one obligation an operation, none an order. Over any program. -/
import Derived.Test.YtjelpapcboiimaaOrd
namespace Go.Proofs.Ytjelpapcboiimaa.Ord

def dstAt (ops : Array Oper) (i : Nat) : Option Tmp := (ops[i]?).bind (·.dst)

/-- The frame behind those of the first n operations that are listed. -/
def frL (ops : Array Oper) (a0 : Act) (g : Nat → Value) (L : Nat → Bool) : Nat → Act
  | 0 => a0
  | n + 1 => if L n then (frL ops a0 g L n).put (dstAt ops n) (g n) else frL ops a0 g L n
/-- The frame behind the first i operations, in the order of the text. -/
def pre (ops : Array Oper) (a0 : Act) (g : Nat → Value) : Nat → Act
  | 0 => a0
  | i + 1 => (pre ops a0 g i).put (dstAt ops i) (g i)

section
variable {P : Program} {ops : Array Oper} {Q : Exit → Act → World → Prop} {md : Region.Mode} {a0 : Act}

theorem put_size (a : Act) (d : Option Tmp) (v : Value) : (a.put d v).tmps.size = a.tmps.size := by
  cases d <;> simp [Act.put]
theorem frL_size (g : Nat → Value) (L : Nat → Bool) : ∀ n, (frL ops a0 g L n).tmps.size = a0.tmps.size
  | 0 => rfl
  | n + 1 => by
    unfold frL; split
    · rw [put_size, frL_size g L n]
    · exact frL_size g L n
theorem eval_put_same (a : Act) (t : Tmp) (v : Value) : (a.put (some t) v).eval (.tmp t) = if t < a.tmps.size then v else undef := by
  simp only [Act.put, Act.eval]
  by_cases h : t < a.tmps.size
  · simp [h]
  · simp [h]
theorem frL_agree (g : Nat → Value) (L1 L2 : Nat → Bool) (t : Tmp) : ∀ n, (∀ j, j < n → dstAt ops j = some t → L1 j = L2 j) →
    (frL ops a0 g L1 n).eval (.tmp t) = (frL ops a0 g L2 n).eval (.tmp t)
  | 0, _ => rfl
  | n + 1, h => by
    have ih := frL_agree g L1 L2 t n (fun j hj => h j (by omega))
    by_cases e : dstAt ops n = some t
    · have hl := h n (by omega) e
      unfold frL
      rw [hl, e]
      cases L2 n with
      | true => simp only [if_true]; rw [eval_put_same, eval_put_same, frL_size, frL_size]
      | false => simpa using ih
    · have keep : ∀ (a : Act) (v : Value), (a.put (dstAt ops n) v).eval (.tmp t) = a.eval (.tmp t) := fun a v =>
        Act.eval_put (fun d hd heq => e (by rw [hd]; injection heq with heq; rw [heq]))
      unfold frL
      cases L1 n <;> cases L2 n <;> simp [keep, ih]
theorem frL_pre (g : Nat → Value) (i : Nat) : ∀ n, i ≤ n → frL ops a0 g (fun j => decide (j < i)) n = pre ops a0 g i
  | 0, h => by obtain rfl : i = 0 := by omega
               rfl
  | n + 1, h => by
    unfold frL
    by_cases e : i = n + 1
    · subst e
      rw [if_pos (by simp)]
      have : ∀ m, m ≤ n → frL ops a0 g (fun j => decide (j < n + 1)) m = pre ops a0 g m := by
        intro m
        induction m with
        | zero => intro _; rfl
        | succ m ih => intro hm; unfold frL pre; rw [if_pos (by simp; omega), ih (by omega)]
      rw [this n (Nat.le_refl _)]; rfl
    · rw [if_neg (by simp; omega)]
      exact frL_pre g i n (by omega)
theorem frL_all (g : Nat → Value) (L : Nat → Bool) : ∀ n, (∀ j, j < n → L j = true) → frL ops a0 g L n = pre ops a0 g n
  | 0, _ => rfl
  | n + 1, h => by unfold frL pre; rw [if_pos (h n (by omega)), frL_all g L n (fun j hj => h j (by omega))]

def upd (g : Nat → Value) (i : Nat) (v : Value) : Nat → Value := fun j => if j = i then v else g j
theorem upd_same (g : Nat → Value) (i : Nat) (v : Value) : upd g i v i = v := by simp [upd]
theorem upd_other (g : Nat → Value) {i j : Nat} (v : Value) (h : j ≠ i) : upd g i v j = g j := by simp [upd, h]

theorem frL_upd_ge (g : Nat → Value) (L L' : Nat → Bool) (i : Nat) (v : Value) : ∀ n, n ≤ i → (∀ j, j < n → L' j = L j) →
    frL ops a0 (upd g i v) L' n = frL ops a0 g L n
  | 0, _, _ => rfl
  | n + 1, h, hl => by
    unfold frL
    rw [hl n (by omega), frL_upd_ge g L L' i v n (by omega) (fun j hj => hl j (by omega)), upd_other g v (by omega)]
theorem frL_upd (N : Nat) (g : Nat → Value) (L L' : Nat → Bool) (i : Nat) (v : Value) (hi : L i = false) (hi' : L' i = true) (ho : ∀ j, j ≠ i → L' j = L j)
    (hd : ∀ j, j < N → j ≠ i → ∀ d, dstAt ops i = some d → dstAt ops j ≠ some d) : ∀ n, n ≤ N → i < n →
    frL ops a0 (upd g i v) L' n = (frL ops a0 g L n).put (dstAt ops i) v
  | 0, _, h => by omega
  | n + 1, hN, h => by
    unfold frL
    by_cases e : n = i
    · subst e
      rw [hi, hi', if_pos rfl, frL_upd_ge g L L' n v n (Nat.le_refl _) (fun j hj => ho j (by omega)), upd_same]
      simp
    · rw [ho n e, frL_upd N g L L' i v hi hi' ho hd n (by omega) (by omega), upd_other g v e]
      cases L n with
      | true => simp only [if_true]; exact Act.put_comm _ _ _ (fun d hx => hd n (by omega) e d hx)
      | false => simp

/-- What an operation gives, from a frame's reading and a world. -/
def OpGives (P : Program) (o : Oper) (ρ : Operand → Value) (w : World) (K : Value → World → Prop) : Prop :=
  match (execOp ρ o).run P w with
  | .ok (.value v) w' => K v w'
  | .ok .skip w' => K undef w'
  | .ok (.enter f args) w' => Calls P f args w' fun e w'' => ∃ v, e = .returned v ∧ K v w''
  | _ => False
theorem OpGives.mono {o : Oper} {ρ : Operand → Value} {w : World} {K K' : Value → World → Prop} (h : OpGives P o ρ w K) (hk : ∀ v w, K v w → K' v w) : OpGives P o ρ w K' := by
  unfold OpGives at *
  split at h
  · exact hk _ _ h
  · exact hk _ _ h
  · exact h.mono fun e w'' ⟨v, he, hv⟩ => ⟨v, he, hk _ _ hv⟩
  · exact h.elim
theorem OpGives.wpOp {i : Nat} {o : Oper} {K : Act → World → Prop} {a : Act} {w : World} (hi : ops[i]? = some o) (hg : o.guard = none)
    (h : OpGives P o a.eval w fun v w' => K (a.put o.dst v) w') : Go.wpOp P ops Q i K a w := by
  unfold Go.wpOp; rw [hi]; simp only [Region.wanted, hg, if_true]
  refine .inl ?_
  unfold Oper.wp
  unfold OpGives at h
  generalize (execOp a.eval o).run P w = r at *
  cases r with
  | halt x w' => exact h.elim
  | ok n w' =>
    cases n with
    | value v => exact h
    | skip => exact h
    | enter f args => exact h.mono fun e w'' ⟨v, he, hk⟩ => by subst he; exact hk
    | _ => exact h.elim

/-- Does operation j wait for operation i? -/
def waits (md : Region.Mode) (ops : Array Oper) (j i : Nat) : Bool :=
  match ops[j]? with
  | some oj => oj.after.any fun e => Region.binds md e && e.on == i
  | none => false
def oneDst (x y : Option Tmp) : Bool := match x, y with
  | some a, some b => a == b
  | _, _ => false
/-- The closed facts on a region's text: its first n operations bear no guard, wait for earlier ones alone, write slots of their own, and wait wherever one reads what another writes; those behind wait for all of them. -/
def wired (md : Region.Mode) (ops : Array Oper) (n : Nat) : Bool :=
  decide (n ≤ ops.size) && Region.noSelect ops &&
  ((List.range n).all fun i => match ops[i]? with
    | some oi => oi.guard.isNone && (oi.after.all fun e => !Region.binds md e || decide (e.on < i)) &&
      ((List.range n).all fun j => j == i || (!oneDst (dstAt ops i) (dstAt ops j) &&
        (match dstAt ops j with
          | some d => !((oi.op.operands.toList.any fun x => match x with | .tmp t => t == d | _ => false)) || (if j < i then waits md ops i j else waits md ops j i)
          | none => true)))
    | none => false) &&
  ((List.range ops.size).all fun j => decide (j < n) || (List.range n).all fun i => waits md ops j i)

structure Wired (md : Region.Mode) (ops : Array Oper) (n : Nat) : Prop where
  le : n ≤ ops.size
  sel : Region.noSelect ops = true
  op : ∀ i, i < n → ∃ oi, ops[i]? = some oi ∧ oi.guard = none ∧ ∀ e ∈ oi.after, Region.binds md e = true → e.on < i
  dst : ∀ i j, i < n → j < n → j ≠ i → ∀ d, dstAt ops i = some d → dstAt ops j ≠ some d
  read : ∀ i j oi, i < n → j < n → j ≠ i → ops[i]? = some oi → ∀ d, dstAt ops j = some d → Operand.tmp d ∈ oi.op.operands → (if j < i then waits md ops i j else waits md ops j i) = true
  tail : ∀ j, n ≤ j → j < ops.size → ∀ i, i < n → waits md ops j i = true
theorem wired_spec {n : Nat} (h : wired md ops n = true) : Wired md ops n := by
  unfold wired at h
  simp only [Bool.and_eq_true, decide_eq_true_eq, List.all_eq_true, List.mem_range, Bool.or_eq_true] at h
  obtain ⟨⟨⟨h1, h2⟩, h3⟩, h4⟩ := h
  have h3' : ∀ i, i < n → ∃ oi, ops[i]? = some oi ∧ oi.guard = none ∧ (∀ e ∈ oi.after, Region.binds md e = true → e.on < i) ∧
      ∀ j, j < n → j ≠ i → (oneDst (dstAt ops i) (dstAt ops j) = false ∧ ∀ d, dstAt ops j = some d → Operand.tmp d ∈ oi.op.operands → (if j < i then waits md ops i j else waits md ops j i) = true) := by
    intro i hi
    have := h3 i hi
    cases ho : ops[i]? with
    | none => rw [ho] at this; cases this
    | some oi =>
      rw [ho] at this
      simp only [Bool.and_eq_true, Option.isNone_iff_eq_none, Array.all_eq_true_iff_forall_mem, Bool.or_eq_true, Bool.not_eq_true', decide_eq_true_eq, List.all_eq_true, List.mem_range, beq_iff_eq] at this
      obtain ⟨⟨g1, g2⟩, g3⟩ := this
      refine ⟨oi, rfl, g1, fun e he hb => ?_, fun j hj hji => ?_⟩
      · rcases g2 e he with x | x
        · rw [x] at hb; cases hb
        · exact x
      · rcases g3 j hj with x | ⟨x1, x2⟩
        · exact absurd x hji
        · refine ⟨x1, fun d hd hmem => ?_⟩
          rw [hd] at x2
          simp only [Bool.or_eq_true, Bool.not_eq_true'] at x2
          rcases x2 with y | y
          · have : (oi.op.operands.toList.any fun x => match x with | .tmp t => t == d | _ => false) = true :=
              List.any_eq_true.2 ⟨.tmp d, by simpa using hmem, by simp⟩
            rw [this] at y; cases y
          · exact y
  refine ⟨h1, h2, fun i hi => ?_, fun i j hi hj hji d hd hd' => ?_, fun i j oi hi hj hji ho d hd hm => ?_, fun j hj hjs i hi => ?_⟩
  · obtain ⟨oi, a, b, c, _⟩ := h3' i hi; exact ⟨oi, a, b, c⟩
  · obtain ⟨oi, _, _, _, f⟩ := h3' i hi
    have := (f j hj hji).1
    rw [hd, hd'] at this
    simp [oneDst] at this
  · obtain ⟨oi', a, _, _, f⟩ := h3' i hi
    rw [ho] at a; injection a with a; subst a
    exact (f j hj hji).2 d hd hm
  · rcases h4 j hjs with x | x
    · omega
    · exact x i hi

theorem waits_spec {j i : Nat} (h : waits md ops j i = true) : ∃ oj, ops[j]? = some oj ∧ ∃ e ∈ oj.after, Region.binds md e = true ∧ e.on = i := by
  unfold waits at h
  split at h
  · rename_i oj hj
    obtain ⟨e, he, hb⟩ := Array.any_eq_true'.1 h
    simp only [Bool.and_eq_true, beq_iff_eq] at hb
    exact ⟨oj, hj, e, he, hb.1, hb.2⟩
  · cases h

theorem count_step (p p' : Nat → Bool) (i : Nat) (hp : p i = true) (hp' : p' i = false) (ho : ∀ j, j ≠ i → p' j = p j) : ∀ n, i < n → (List.range n).countP p' + 1 = (List.range n).countP p
  | 0, h => by omega
  | n + 1, h => by
    rw [List.range_succ, List.countP_append, List.countP_append]
    by_cases e : i = n
    · subst e
      have : (List.range i).countP p' = (List.range i).countP p := by
        rw [List.countP_congr]; intro x hx; rw [ho x (by have := List.mem_range.1 hx; omega)]
      rw [this]; simp [hp, hp']
    · have ih := count_step p p' i hp hp' ho n (by omega)
      have e2 : p' n = p n := ho n (fun x => e x.symm)
      simp only [List.countP_singleton, e2]
      omega
theorem count_zero (p : Nat → Bool) (n : Nat) (h : (List.range n).countP p = 0) (j : Nat) (hj : j < n) : p j = false := by
  rw [List.countP_eq_zero] at h
  simpa using h j (List.mem_range.2 hj)

/-- The first n listed. -/
def doneN (ops : Array Oper) (n : Nat) : Array Bool := ((List.range ops.size).map fun j => decide (j < n)).toArray

section
variable {n : Nat} (S : World → Prop) (R : World → World → Prop) (φ : Nat → Value → World → Prop)

theorem region_core (hw : Wired md ops n) (hS : ∀ w w', S w → R w w' → S w') (hφ : ∀ i v w w', φ i v w → R w w' → φ i v w')
    (step : ∀ i oi, i < n → ops[i]? = some oi → ∀ g w, S w → (∀ j, j < i → waits md ops i j = true → φ j (g j) w) →
      OpGives P oi (pre ops a0 g i).eval w (fun v w' => R w w' ∧ φ i v w'))
    (fin : ∀ g w, S w → (∀ i, i < n → φ i (g i) w) → wpAny P md ops Q (ops.size - n) (doneN ops n) (pre ops a0 g n) w) :
    ∀ (m : Nat) (listed : Array Bool) (g : Nat → Value) (w : World), (List.range n).countP (fun j => !listed.getD j false) = m → listed.size = ops.size →
      (∀ j oj, listed.getD j false = true → ops[j]? = some oj → ∀ e ∈ oj.after, Region.binds md e = true → listed.getD e.on false = true) →
      (∀ j, n ≤ j → listed.getD j false = false) → S w → (∀ j, j < n → listed.getD j false = true → φ j (g j) w) →
      wpAny P md ops Q (m + (ops.size - n)) listed (frL ops a0 g (fun j => listed.getD j false) n) w := by
  intro m
  induction m with
  | zero =>
    intro listed g w hc hsz hcl htl hSw hph
    have hall : ∀ j, j < n → listed.getD j false = true := fun j hj => by
      have := count_zero _ n hc j hj; simpa using this
    have hl : listed = doneN ops n := by
      apply Array.ext
      · simp [doneN, hsz]
      · intro j h1 h2
        have e : listed[j] = listed.getD j false := by simp [h1]
        rw [e]
        simp only [doneN, List.getElem_toArray, List.getElem_map, List.getElem_range]
        by_cases hj : j < n
        · simp [hall j hj, hj]
        · rw [htl j (by omega)]; simp [hj]
    rw [frL_all g _ n hall, Nat.zero_add]
    subst hl
    exact fin g w hSw (fun i hi => hph i hi (hall i hi))
  | succ m ih =>
    intro listed g w hc hsz hcl htl hSw hph
    rw [show m + 1 + (ops.size - n) = (m + (ops.size - n)) + 1 by omega]
    -- some operation may come up: the first that is not listed
    have hex : ∃ i, i < n ∧ listed.getD i false = false := by
      apply Classical.byContradiction
      intro hno
      have : (List.range n).countP (fun j => !listed.getD j false) = 0 := by
        rw [List.countP_eq_zero]
        intro j hj
        have hj' := List.mem_range.1 hj
        cases hl : listed.getD j false with
        | true => simp
        | false => exact absurd ⟨j, hj', hl⟩ hno
      omega
    have hunl : ∀ j, j < ops.size → (listed.getD j true = false ↔ listed.getD j false = false) := fun j hj => by simp [hsz, hj]
    have hne : Region.ready md ops listed ≠ [] := by
      intro h0
      obtain ⟨i, hi, hl⟩ := hex
      have key : ∀ d i, i = d → i < n → listed.getD i false = false → False := by
        intro d
        induction d using Nat.strongRecOn with
        | _ d ihd =>
          intro i hid hi hl
          obtain ⟨oi, ho, _, hdep⟩ := hw.op i hi
          have : i ∈ Region.ready md ops listed := mem_ready.2 ⟨(hunl i (by have := hw.le; omega)).2 hl, oi, ho, fun e he hb => by
            have hlt := hdep e he hb
            cases hx : listed.getD e.on false with
            | true => rfl
            | false => exact (ihd e.on (by omega) e.on rfl (by omega) hx).elim⟩
          rw [h0] at this; cases this
      exact key i i rfl hi hl
    refine ⟨fun h0 => absurd h0 hne, fun j hj => ?_⟩
    obtain ⟨hjun, oj, hoj, hdeps⟩ := mem_ready.1 hj
    have hjs : j < ops.size := (Array.getElem?_eq_some_iff.1 hoj).1
    have hjl := (hunl j hjs).1 hjun
    have hjn : j < n := by
      rcases Nat.lt_or_ge j n with h | h
      · exact h
      · obtain ⟨i, hi, hl⟩ := hex
        obtain ⟨oj', ho', e, he, hb, hon⟩ := waits_spec (hw.tail j h hjs i hi)
        rw [hoj] at ho'; injection ho' with ho'; subst ho'
        have := hdeps e he hb
        rw [hon, hl] at this; cases this
    obtain ⟨oj2, ho2, hguard, _⟩ := hw.op j hjn
    rw [hoj] at ho2; injection ho2 with ho2; subst ho2
    -- the frame reads as the one in the text's order
    have hread : execOp (frL ops a0 g (fun j => listed.getD j false) n).eval oj = execOp (pre ops a0 g j).eval oj := by
      rw [← frL_pre (ops := ops) (a0 := a0) g j n (by omega)]
      refine execOp_congr oj (fun cs b => Region.noSelect_spec hw.sel j oj cs b hoj) (fun x hx => ?_)
      cases x with
      | tmp t =>
        refine frL_agree g _ _ t n (fun k hk hdk => ?_)
        by_cases hkj : k = j
        · subst hkj; simp [hjl]
        · have := hw.read j k oj hjn hk hkj hoj t hdk hx
          by_cases hlt : k < j
          · rw [if_pos hlt] at this
            obtain ⟨o', ho', e, he, hb, hon⟩ := waits_spec this
            rw [hoj] at ho'; injection ho' with ho'; subst ho'
            have h2 := hdeps e he hb
            rw [hon] at h2
            simp only [h2, decide_eq_true hlt]
          · rw [if_neg hlt] at this
            obtain ⟨o', ho', e, he, hb, hon⟩ := waits_spec this
            have hnl : listed.getD k false = false := by
              cases hx : listed.getD k false with
              | false => rfl
              | true =>
                have := hcl k o' hx ho' e he hb
                rw [hon, hjl] at this; cases this
            simp only [hnl, decide_eq_false hlt]
      | _ => rfl
    have hdst : oj.dst = dstAt ops j := by simp [dstAt, hoj]
    have hst := step j oj hjn hoj g w hSw (fun k hk hwk => by
      obtain ⟨o', ho', e, he, hb, hon⟩ := waits_spec hwk
      rw [hoj] at ho'; injection ho' with ho'; subst ho'
      have h2 := hdeps e he hb
      rw [hon] at h2
      exact hph k (by omega) h2)
    refine OpGives.wpOp hoj hguard ?_
    unfold OpGives at hst ⊢
    rw [hread]
    refine OpGives.mono (o := oj) (ρ := (pre ops a0 g j).eval) hst (fun v w' ⟨hR, hphv⟩ => ?_)
    have hL : ∀ k, (listed.setIfInBounds j true).getD k false = if k = j then true else listed.getD k false := fun k => by
      by_cases hk : k = j
      · subst hk; simp [hsz, hjs]
      · simp only [hk, if_false]; exact getD_set_ne false (fun x => hk x.symm)
    have hfr : (frL ops a0 g (fun j => listed.getD j false) n).put oj.dst v = frL ops a0 (upd g j v) (fun k => (listed.setIfInBounds j true).getD k false) n := by
      rw [hdst]
      refine (frL_upd n g _ _ j v hjl (by simp [hL]) (fun k hk => by simp [hL, hk]) (fun k hk hkj d hd => hw.dst j k hjn hk hkj d hd) n (Nat.le_refl _) hjn).symm
    rw [hfr]
    refine ih (listed.setIfInBounds j true) (upd g j v) w' ?_ (by simp [hsz]) ?_ ?_ (hS _ _ hSw hR) ?_
    · have := count_step (fun k => !listed.getD k false) (fun k => !(listed.setIfInBounds j true).getD k false) j (by simp [hjl]) (by simp [hL]) (fun k hk => by simp [hL, hk]) n hjn
      omega
    · intro k ok hk hok e he hb
      rw [hL] at hk ⊢
      by_cases hkj : k = j
      · subst hkj
        rw [hoj] at hok; injection hok with hok; subst hok
        split
        · rfl
        · exact hdeps e he hb
      · rw [if_neg hkj] at hk
        split
        · rfl
        · exact hcl k ok hk hok e he hb
    · intro k hk
      rw [hL, if_neg (by omega)]; exact htl k hk
    · intro k hk hl
      by_cases hkj : k = j
      · subst hkj; rw [upd_same]; exact hphv
      · rw [upd_other g v hkj]
        rw [hL, if_neg hkj] at hl
        exact hφ _ _ _ _ (hph k hk hl) hR

/-- A REGION THAT DRAWS ITS ORDER, BY WHAT EACH OF ITS FIRST n OPERATIONS GIVES. -/
theorem wp_region_rg {id : Nat} {w : World} (n : Nat) (hm : P.follows .mixedOrders = true) (hw : wired .any ops n = true)
    (hS : ∀ w w', S w → R w w' → S w') (hφ : ∀ i v w w', φ i v w → R w w' → φ i v w') (h0 : S w.drew)
    (step : ∀ i oi, i < n → ops[i]? = some oi → ∀ g w, S w → (∀ j, j < i → waits .any ops i j = true → φ j (g j) w) →
      OpGives P oi (pre ops a0 g i).eval w (fun v w' => R w w' ∧ φ i v w'))
    (fin : ∀ g w, S w → (∀ i, i < n → φ i (g i) w) → wpAny P .any ops Q (ops.size - n) (doneN ops n) (pre ops a0 g n) w) :
    (Code.region id ops true).wp P Q a0 w := by
  refine wp_region_any hm ?_
  have hW := wired_spec hw
  have hf : ∀ j, (Array.replicate ops.size false).getD j false = false := fun j => by
    rcases Nat.lt_or_ge j ops.size with h | h <;> simp [h]
  have h := region_core (Q := Q) (a0 := a0) S R φ hW hS hφ step fin n (Array.replicate ops.size false) (fun _ => undef) w.drew
    (by rw [List.countP_eq_length.2]; · simp
        · intro j _; simp only [hf]; rfl) (by simp) (fun j oj hj => by rw [hf] at hj; cases hj) (fun j _ => hf j) h0 (fun j _ hj => by rw [hf] at hj; cases hj)
  have e1 : n + (ops.size - n) = ops.size := by have := hW.le; omega
  rw [e1] at h
  have e2 : ∀ m, frL ops a0 (fun _ => undef) (fun j => (Array.replicate ops.size false).getD j false) m = a0 := by
    intro m
    induction m with
    | zero => rfl
    | succ m ihm => unfold frL; rw [hf, ihm]; simp
  rw [e2] at h
  exact h

/-- What is known of an operation's value: it is V, or it meets p, now and later. -/
structure Fact (R : World → World → Prop) where
  p : Value → World → Prop
  st : ∀ v w w', p v w → R w w' → p v w'
def eqF (R : World → World → Prop) (V : Value) : Fact R := ⟨fun v _ => v = V, fun _ _ _ h _ => h⟩
def factP {R : World → World → Prop} (fs : List (Fact R)) (i : Nat) (v : Value) (w : World) : Prop :=
  match fs[i]? with
  | some f => f.p v w
  | none => True
/-- One obligation for each operation, in the order of the text. -/
def Steps (P : Program) (ops : Array Oper) (a0 : Act) (S : World → Prop) (R : World → World → Prop) (all : List (Fact R)) : Nat → List Oper → List (Fact R) → Prop
  | _, [], [] => True
  | i, o :: os, f :: fs => (∀ (g : Nat → Value) (w : World), S w → (∀ j, j < i → waits .any ops i j = true → factP all j (g j) w) →
      OpGives P o (pre ops a0 g i).eval w (fun v w' => R w w' ∧ f.p v w')) ∧ Steps P ops a0 S R all (i + 1) os fs
  | _, _, _ => False
theorem steps_nil {S : World → Prop} {R : World → World → Prop} {all : List (Fact R)} {i : Nat} : Steps P ops a0 S R all i [] [] := trivial
theorem steps_cons {S : World → Prop} {R : World → World → Prop} {all : List (Fact R)} {i : Nat} {o : Oper} {os : List Oper} {f : Fact R} {fs : List (Fact R)}
    (h : ∀ (g : Nat → Value) (w : World), S w → (∀ j, j < i → waits .any ops i j = true → factP all j (g j) w) → OpGives P o (pre ops a0 g i).eval w (fun v w' => R w w' ∧ f.p v w'))
    (rest : Steps P ops a0 S R all (i + 1) os fs) : Steps P ops a0 S R all i (o :: os) (f :: fs) := ⟨h, rest⟩
theorem steps_get {S : World → Prop} {R : World → World → Prop} {all : List (Fact R)} : ∀ (os : List Oper) (fs : List (Fact R)) (k : Nat), Steps P ops a0 S R all k os fs →
    ∀ i o, os[i]? = some o → ∃ f, fs[i]? = some f ∧ (∀ (g : Nat → Value) (w : World), S w → (∀ j, j < k + i → waits .any ops (k + i) j = true → factP all j (g j) w) →
      OpGives P o (pre ops a0 g (k + i)).eval w (fun v w' => R w w' ∧ f.p v w'))
  | [], _, _, _, i, o, h => by simp at h
  | o :: os, [], _, hs, _, _, _ => by simp [Steps] at hs
  | o :: os, f :: fs, k, hs, i, o', h => by
    cases i with
    | zero =>
      simp at h; subst h
      exact ⟨f, rfl, hs.1⟩
    | succ i =>
      obtain ⟨f', hf, hx⟩ := steps_get os fs (k + 1) hs.2 i o' (by simpa using h)
      refine ⟨f', by simpa using hf, ?_⟩
      have e : k + 1 + i = k + (i + 1) := by omega
      rw [e] at hx
      exact hx
/-- THE REGION, its facts in a list. -/
theorem wp_region_facts {id : Nat} {w : World} {S : World → Prop} {R : World → World → Prop} (fs : List (Fact R)) (hm : P.follows .mixedOrders = true) (hw : wired .any ops fs.length = true)
    (hS : ∀ w w', S w → R w w' → S w') (h0 : S w.drew) (steps : Steps P ops a0 S R fs 0 (ops.toList.take fs.length) fs)
    (fin : ∀ g w, S w → (∀ i, i < fs.length → factP fs i (g i) w) → wpAny P .any ops Q (ops.size - fs.length) (doneN ops fs.length) (pre ops a0 g fs.length) w) :
    (Code.region id ops true).wp P Q a0 w := by
  refine wp_region_rg S R (factP fs) fs.length hm hw hS (fun i v w w' h hR => ?_) h0 (fun i oi hi ho g w hSw hd => ?_) fin
  · unfold factP at *
    split
    · rename_i f hf; rw [hf] at h; exact f.st _ _ _ h hR
    · trivial
  · obtain ⟨f, hf, hx⟩ := steps_get _ _ 0 steps i oi (by rw [List.getElem?_take, if_pos hi]; simpa using ho)
    have := hx g w hSw (fun j hj hw => hd j (by omega) (by simpa using hw))
    rw [Nat.zero_add] at this
    refine this.mono fun v w' ⟨hR, hp⟩ => ⟨hR, ?_⟩
    unfold factP; rw [hf]; exact hp

/-- The frame behind the region's text, written out. -/
def puts (a : Act) (g : Nat → Value) : Nat → List (Option Tmp) → Act
  | _, [] => a
  | i, d :: ds => puts (a.put d (g i)) g (i + 1) ds
theorem puts_snoc (g : Nat → Value) (d : Option Tmp) : ∀ (ds : List (Option Tmp)) (a : Act) (i : Nat), puts a g i (ds ++ [d]) = (puts a g i ds).put d (g (i + ds.length))
  | [], a, i => rfl
  | e :: ds, a, i => by
    show puts (a.put e (g i)) g (i + 1) (ds ++ [d]) = _
    rw [puts_snoc g d ds]
    show (puts (a.put e (g i)) g (i + 1) ds).put d (g (i + 1 + ds.length)) = (puts (a.put e (g i)) g (i + 1) ds).put d (g (i + (ds.length + 1)))
    rw [show i + 1 + ds.length = i + (ds.length + 1) by omega]
theorem pre_puts (g : Nat → Value) : ∀ n, pre ops a0 g n = puts a0 g 0 ((List.range n).map (dstAt ops))
  | 0 => rfl
  | n + 1 => by
    rw [List.range_succ, List.map_append, List.map_singleton, puts_snoc, ← pre_puts g n, List.length_map, List.length_range, Nat.zero_add]; rfl
theorem pre_lit {g : Nat → Value} {n : Nat} (l : List (Option Tmp)) (h : (List.range n).map (dstAt ops) = l) : pre ops a0 g n = puts a0 g 0 l := by rw [← h]; exact pre_puts g n

/-- A reading of the frame that knows some slots. -/
def rdl (a0 : Act) (l : List (Tmp × Value)) : Operand → Value
  | .tmp t => match l.lookup t with | some v => v | none => a0.eval (.tmp t)
  | x => a0.eval x
theorem rdl_const (a0 : Act) (l : List (Tmp × Value)) (v : Value) : rdl a0 l (.const v) = v := rfl
theorem rdl_func (a0 : Act) (l : List (Tmp × Value)) (f : FuncId) : rdl a0 l (.func f) = a0.eval (.func f) := rfl
theorem rdl_global (a0 : Act) (l : List (Tmp × Value)) (g : Nat) : rdl a0 l (.global g) = a0.eval (.global g) := rfl
theorem rdl_nil (a0 : Act) (t : Tmp) : rdl a0 [] (.tmp t) = a0.eval (.tmp t) := rfl
theorem rdl_cons (a0 : Act) (t s : Tmp) (v : Value) (l : List (Tmp × Value)) : rdl a0 ((s, v) :: l) (.tmp t) = if t = s then v else rdl a0 l (.tmp t) := by
  simp only [rdl, List.lookup_cons]
  by_cases h : t = s
  · subst h; simp
  · have : (t == s) = false := by simp [h]
    rw [this, if_neg h]
theorem OpGives.reads {o : Oper} {ρ : Operand → Value} {w : World} {K : Value → World → Prop} (a0 : Act) (l : List (Tmp × Value)) (hs : ∀ cs b, o.op ≠ .select cs b)
    (h : o.op.operands.toList.map ρ = o.op.operands.toList.map (rdl a0 l)) (hg : OpGives P o (rdl a0 l) w K) : OpGives P o ρ w K := by
  unfold OpGives at *
  rw [execOp_congr o hs (ρ := ρ) (ρ' := rdl a0 l) (fun x hx => List.map_inj_left.1 h x (by simpa using hx))]
  exact hg
/-- The last of the first i operations that writes a slot. -/
def lastW (ops : Array Oper) (t : Tmp) : Nat → Option Nat
  | 0 => none
  | i + 1 => if oneDst (dstAt ops i) (some t) then some i else lastW ops t i
theorem pre_size (g : Nat → Value) : ∀ i, (pre ops a0 g i).tmps.size = a0.tmps.size
  | 0 => rfl
  | i + 1 => by unfold pre; rw [put_size, pre_size g i]
theorem pre_eval (g : Nat → Value) (t : Tmp) (ht : t < a0.tmps.size) : ∀ i, (pre ops a0 g i).eval (.tmp t) = match lastW ops t i with | some j => g j | none => a0.eval (.tmp t)
  | 0 => rfl
  | i + 1 => by
    have ih := pre_eval g t ht i
    unfold pre lastW
    cases h : dstAt ops i with
    | none => simpa [Act.put, oneDst] using ih
    | some d =>
      by_cases e : d = t
      · subst e
        rw [eval_put_same, pre_size, if_pos ht]; simp [oneDst]
      · rw [Act.eval_put (fun d' hd heq => by injection hd with hd; injection heq with heq; exact e (by rw [hd, ← heq]))]
        simpa [oneDst, e] using ih
def okReads (ops : Array Oper) (i : Nat) (o : Oper) (l : List (Tmp × Nat)) (sz : Nat) : Bool :=
  (match o.op with | .select .. => false | _ => true) && o.op.operands.toList.all fun x => match x with
    | .tmp t => decide (t < sz) && (match lastW ops t i with | some j => l.lookup t == some j | none => (l.lookup t).isNone)
    | _ => true
theorem lookup_map (g : Nat → Value) (t : Tmp) : ∀ l : List (Tmp × Nat), (l.map fun x => (x.1, g x.2)).lookup t = (l.lookup t).map g
  | [] => rfl
  | (s, j) :: l => by
    simp only [List.map_cons, List.lookup_cons, lookup_map g t l]
    cases t == s <;> rfl
theorem OpGives.pre_reads {o : Oper} {g : Nat → Value} {i : Nat} {w : World} {K : Value → World → Prop} (l : List (Tmp × Nat)) (sz : Nat) (hsz : a0.tmps.size = sz) (hok : okReads ops i o l sz = true)
    (hg : OpGives P o (rdl a0 (l.map fun x => (x.1, g x.2))) w K) : OpGives P o (pre ops a0 g i).eval w K := by
  unfold okReads at hok
  rw [Bool.and_eq_true] at hok
  obtain ⟨h1, h2⟩ := hok
  have hs : ∀ cs b, o.op ≠ .select cs b := fun cs b h => by rw [h] at h1; cases h1
  refine OpGives.reads a0 _ hs ?_ hg
  refine List.map_congr_left (fun x hx => ?_)
  have h3 := List.all_eq_true.1 h2 x hx
  cases x with
  | tmp t =>
    simp only [Bool.and_eq_true, decide_eq_true_eq] at h3
    rw [pre_eval g t (by rw [hsz]; exact h3.1)]
    simp only [rdl, lookup_map]
    cases hl : lastW ops t i with
    | none => rw [hl] at h3; simp only [Option.isNone_iff_eq_none] at h3; rw [h3.2]; rfl
    | some j => rw [hl] at h3; simp only [beq_iff_eq] at h3; rw [h3.2]; rfl
  | const v => induction i with | zero => rfl | succ i ih => rfl
  | global v => induction i with | zero => rfl | succ i ih => rfl
  | func v => induction i with | zero => rfl | succ i ih => rfl
theorem OpGives.val {o : Oper} {ρ : Operand → Value} {w w' : World} {v : Value} {K : Value → World → Prop} (hr : (execOp ρ o).run P w = .ok (.value v) w') (hk : K v w') : OpGives P o ρ w K := by
  unfold OpGives; rw [hr]; exact hk
theorem OpGives.call {o : Oper} {ρ : Operand → Value} {w w' : World} {f : FuncId} {args : Array Value} {K : Value → World → Prop} (hr : (execOp ρ o).run P w = .ok (.enter f args) w')
    (hk : Calls P f args w' fun e w'' => ∃ v, e = .returned v ∧ K v w'') : OpGives P o ρ w K := by
  unfold OpGives; rw [hr]; exact hk
end
end
end Go.Proofs.Ytjelpapcboiimaa.Ord
