/- A region that draws its order: what holds hangs on which operations are over, and a fact is of a value and a world; each operation has its own relation. Over any program. -/
import Derived.Test.YtjelpapcboiimaaRl
namespace Go.Proofs.Ytjelpapcboiimaa.Ord
section
variable {P : Program} {ops : Array Oper} {Q : Exit → Act → World → Prop} {a0 : Act}
def eqM (V : Value) : Value → World → Prop := fun v _ => v = V
def factM (fs : List (Value → World → Prop)) (i : Nat) (v : Value) (w : World) : Prop :=
  match fs[i]? with
  | some f => f v w
  | none => True
/-- One obligation for each operation, in the order of the text. -/
def StepsM (P : Program) (ops : Array Oper) (a0 : Act) (S : (Nat → Bool) → World → Prop) (R : Nat → World → World → Prop) (all : List (Value → World → Prop)) : Nat → List Oper → List (Value → World → Prop) → Prop
  | _, [], [] => True
  | i, o :: os, f :: fs => (∀ (g : Nat → Value) (w : World) (L : Nat → Bool), L i = false → S L w → (∀ j, j < i → waits .any ops i j = true → factM all j (g j) w) →
      OpGives P o (pre ops a0 g i).eval w (fun v w' => R i w w' ∧ f v w' ∧ S (fun k => if k = i then true else L k) w')) ∧ StepsM P ops a0 S R all (i + 1) os fs
  | _, _, _ => False
variable {S : (Nat → Bool) → World → Prop} {R : Nat → World → World → Prop} {all : List (Value → World → Prop)}
theorem stepsM_nil {i : Nat} : StepsM P ops a0 S R all i [] [] := trivial
theorem stepsM_cons {i : Nat} {o : Oper} {os : List Oper} {f : Value → World → Prop} {fs : List (Value → World → Prop)}
    (h : ∀ (g : Nat → Value) (w : World) (L : Nat → Bool), L i = false → S L w → (∀ j, j < i → waits .any ops i j = true → factM all j (g j) w) → OpGives P o (pre ops a0 g i).eval w (fun v w' => R i w w' ∧ f v w' ∧ S (fun k => if k = i then true else L k) w'))
    (rest : StepsM P ops a0 S R all (i + 1) os fs) : StepsM P ops a0 S R all i (o :: os) (f :: fs) := ⟨h, rest⟩
theorem stepsM_get : ∀ (os : List Oper) (fs : List (Value → World → Prop)) (k : Nat), StepsM P ops a0 S R all k os fs →
    ∀ i o, os[i]? = some o → ∃ f, fs[i]? = some f ∧ (∀ (g : Nat → Value) (w : World) (L : Nat → Bool), L (k + i) = false → S L w → (∀ j, j < k + i → waits .any ops (k + i) j = true → factM all j (g j) w) →
      OpGives P o (pre ops a0 g (k + i)).eval w (fun v w' => R (k + i) w w' ∧ f v w' ∧ S (fun x => if x = k + i then true else L x) w'))
  | [], _, _, _, i, o, h => by simp at h
  | o :: os, [], _, hs, _, _, _ => by simp [StepsM] at hs
  | o :: os, f :: fs, k, hs, i, o', h => by
    cases i with
    | zero =>
      simp at h; subst h
      exact ⟨f, rfl, hs.1⟩
    | succ i =>
      obtain ⟨f', hf, hx⟩ := stepsM_get os fs (k + 1) hs.2 i o' (by simpa using h)
      refine ⟨f', by simpa using hf, ?_⟩
      have e : k + 1 + i = k + (i + 1) := by omega
      rw [e] at hx
      exact hx
/-- THE REGION: what holds hangs on which operations are over. -/
theorem wp_region_factsM {id : Nat} {w : World} {S : (Nat → Bool) → World → Prop} (R : Nat → World → World → Prop) (fs : List (Value → World → Prop)) (hm : P.follows .mixedOrders = true) (hw : wiredT .any ops fs.length = true)
    (hst : ∀ i j v w w', i ≠ j → factM fs i v w → R j w w' → factM fs i v w') (h0 : S (fun _ => false) w.drew) (steps : StepsM P ops a0 S R fs 0 (ops.toList.take fs.length) fs)
    (fin : ∀ g w L, (∀ i, i < fs.length → L i = true) → S L w → (∀ i, i < fs.length → factM fs i (g i) w) → wpAny P .any ops Q (ops.size - fs.length) (doneN ops fs.length) (pre ops a0 g fs.length) w) :
    (Code.region id ops true).wp P Q a0 w := by
  refine wp_region_any hm ?_
  have hW := wiredT_spec hw
  have hf : ∀ j, (Array.replicate ops.size false).getD j false = false := fun j => by
    rcases Nat.lt_or_ge j ops.size with h | h <;> simp [h]
  have h := region_core3 (Q := Q) (a0 := a0) (fun L w => S L w) R (factM fs) hW
    hst
    (fun i oi hi ho g w L hLi hSw hd => by
      obtain ⟨f, hf, hx⟩ := stepsM_get _ _ 0 steps i oi (by rw [List.getElem?_take, if_pos hi]; simpa using ho)
      have := hx g w L (by rw [Nat.zero_add]; exact hLi) hSw (fun j hj hw => hd j (by omega) (by simpa using hw))
      simp only [Nat.zero_add] at this
      exact this.mono fun v w' ⟨hr, hp, hs⟩ => ⟨hr, by unfold factM; rw [hf]; exact hp, hs⟩)
    (fun g w L hL hSw hp => fin g w L hL hSw hp) fs.length (Array.replicate ops.size false) (fun _ => undef) w.drew
    (by rw [List.countP_eq_length.2]; · simp
        · intro j _; simp only [hf]; rfl) (by simp) (fun j oj hj => by rw [hf] at hj; cases hj) (fun j _ => hf j) (by rw [show (fun k => (Array.replicate ops.size false).getD k false) = fun _ => false from funext hf]; exact h0) (fun j _ hj => by rw [hf] at hj; cases hj)
  have e1 : fs.length + (ops.size - fs.length) = ops.size := by have := hW.le; omega
  rw [e1] at h
  have e2 : ∀ m, frL ops a0 (fun _ => undef) (fun j => (Array.replicate ops.size false).getD j false) m = a0 := by
    intro m
    induction m with
    | zero => rfl
    | succ m ihm => unfold frL; rw [hf, ihm]; simp
  rw [e2] at h
  exact h
end
end Go.Proofs.Ytjelpapcboiimaa.Ord
