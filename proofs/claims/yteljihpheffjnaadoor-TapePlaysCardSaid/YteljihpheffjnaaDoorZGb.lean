/- Texts of one proof, joined: Gg, Gh, Gi, Gj, Gk, Gl, Gm. -/
import Derived.Test.YteljihpheffjnaaDoorZGa
import Derived.Test.YteljihpheffjnaaDoorZR
import Derived.Deep.Heap
set_option linter.unusedSimpArgs false
set_option linter.unusedVariables false
/- tape.record: the bytes of the record n from a sector on. -/
namespace Go.Proofs.YteljihpheffjnaaDoor.Tape
open Go.RowKit Go.Proofs.YteljihpheffjnaaDoor.Ord Go.Proofs.YteljihpheffjnaaDoorW.PrintWords Go.Proofs.YteljihpheffjnaaDoor.Base Go.Proofs.YteljihpheffjnaaDoor.Drum
open Go.Shelf
set_option linter.unusedVariables false
set_option linter.unusedSimpArgs false
attribute [local go_sem] Oper.semAt_some rdl_const rdl_func rdl_global rdl_nil rdl_cons
attribute [local irreducible] OpGives

theorem saysN_len {l : List UInt8} {x : Sec} (h : saysN l = some x) : x.s.length ≤ 51 := by
  unfold saysN at h
  split at h
  · cases h
  · rename_i h1
    split at h
    · cases h
    · injection h with h
      subst h
      simp only [List.length_take]
      omega
theorem sec_len {D : DS} {j : Nat} {x : Sec} (h : DS.sec D j = some x) : x.s.length ≤ 51 := saysN_len h
/-- The record n from sectors on: what was gathered, and its life. -/
def recL (D : DS) (n : Nat) : List Nat → Nat → List (List UInt8) → Option (List (List UInt8) × Nat)
  | [], _, _ => none
  | j :: js, life, out => match DS.sec D j with
    | none => none
    | some x =>
      if x.record = n ∧ x.part = out.length ∧ x.life = (if out.length = 0 then x.life else life) then
        if x.last = true then some (out ++ [x.s], x.life) else recL D n js x.life (out ++ [x.s])
      else none
def recV : Option (List (List UInt8) × Nat) → List UInt8 × Nat × Nat
  | none => ([], 0, 0)
  | some (o, life) => (o.flatten, life, o.length)
def strs (l : List (List UInt8)) : List Value := l.map fun s => .string ⟨s.toArray⟩
theorem strs_snoc (l : List (List UInt8)) (s : List UInt8) : strs (l ++ [s]) = strs l ++ [.string ⟨s.toArray⟩] := by simp [strs]
theorem strs_len (l : List (List UInt8)) : (strs l).length = l.length := by simp [strs]
theorem intersperse_nil : ∀ l : List (List UInt8), (List.intersperse [] l).flatten = l.flatten
  | [] => rfl
  | [x] => rfl
  | x :: y :: l => by rw [List.intersperse, List.flatten_cons, List.flatten_cons, intersperse_nil (y :: l)] <;> simp
theorem join_nil (l : List (List UInt8)) : Lib.join l [] = l.flatten := intersperse_nil l
theorem allocs_size : ∀ (os : List Obj) (w : World), (os.foldl World.alloc w).heap.size = w.heap.size + os.length
  | [], w => rfl
  | o :: os, w => by rw [List.foldl_cons, allocs_size os, World.size_alloc, List.length_cons]; omega
theorem allocs_new : ∀ (os : List Obj) (w : World), NewMem w (os.foldl World.alloc w)
  | [], w => NewMem.refl w
  | o :: os, w => NewMem.trans (NewMem.alloc w o) (allocs_new os _)
theorem allocs_get : ∀ (os : List Obj) (w : World) (i : Nat) (o : Obj), os[i]? = some o → (os.foldl World.alloc w).heap[w.heap.size + i]? = some o
  | [], w, i, o, h => by simp at h
  | x :: os, w, 0, o, h => by
    have : x = o := by simpa using h
    subst this
    exact ((allocs_new os _).block w.heap.size (by simp)).trans (heap_alloc_last w x)
  | x :: os, w, i + 1, o, h => by
    have := allocs_get os (w.alloc x) i o (by simpa using h)
    rw [World.size_alloc] at this
    rw [List.foldl_cons, show w.heap.size + (i + 1) = w.heap.size + 1 + i by omega]; exact this
theorem flat_len (m : Nat) : ∀ l : List (List UInt8), (∀ s ∈ l, s.length ≤ m) → l.flatten.length ≤ l.length * m
  | [], _ => by simp
  | x :: l, h => by
    have h1 := flat_len m l (fun s hs => h s (List.mem_cons_of_mem _ hs))
    have h2 := h x List.mem_cons_self
    rw [List.flatten_cons, List.length_append, List.length_cons, Nat.add_mul]
    omega
/-- What the rounds have gathered: B is the heap's size when the call began. -/
structure RecI (D : DS) (n B B0 : Nat) (pre : List Nat) (W : World) (outs : List (List UInt8)) (lf : Nat) (v : Value) : Prop where
  len : outs.length = pre.length
  rec_ : ∀ js, recL D n (pre ++ js) 0 [] = recL D n js lf outs
  small : ∀ s ∈ outs, s.length ≤ 51
  box : Boxed W (B + 4) 28 v
  row : W.ownsRow B0 9 1 v outs.length (strs outs)
  life : Boxed W (B + 5) 3 (.int .i64 (lf : Int))
def RecX (D : DS) (n B : Nat) (pre : List Nat) (W : World) : Prop :=
  ∃ r, (∀ js, recL D n (pre ++ js) 0 [] = r) ∧ Boxed W (B + 1) 9 (.string ⟨(recV r).1.toArray⟩) ∧ Boxed W (B + 2) 3 (.int .i64 ((recV r).2.1 : Int)) ∧ Boxed W (B + 3) 3 (.int .i64 ((recV r).2.2 : Int))
theorem row_other {W : World} {B0 j k n cp : Nat} {a : Option Addr} {xs : List Value} {e : TypeId} (h : W.ownsRow B0 e 1 (.slice a n cp) k xs) (hj : j < B0) (u : Value) : (W.setCell ⟨j, 0, none⟩ u).ownsRow B0 e 1 (.slice a n cp) k xs := by
  refine h.kept (grownBy_setCell' W j u) ?_
  rcases h.2 with ⟨e, _⟩ | ⟨g', cp', cur, e, hb, hgb, _⟩
  · exact .inl (by rw [e]; rfl)
  · exact .inr (by rw [e]; simp [Value.ownBlock]; omega)
/-- One more piece behind those gathered. -/
theorem rec_push {W : World} {B B0 k cp : Nat} {a : Option Addr} {outs : List (List UInt8)} (s : List UInt8) (h4 : Boxed W (B + 4) 28 (.slice a k cp)) (hrow : W.ownsRow B0 9 1 (.slice a k cp) k (strs outs)) (hB0 : B + 8 ≤ B0) (hB0' : B0 ≤ W.heap.size) (hk : k ≤ 5000) :
    ∃ g cap W1 W2, (Builtin.append_ #[28, 28] 28 #[.slice a k cp, .slice (some ⟨W.heap.size, 0, none⟩) 1 1]).run Tryd.prog (W.alloc (.cells #[.string ⟨s.toArray⟩] 9)) = .ok (.slice (some ⟨g, 0, none⟩) (k + 1) cap) W1 ∧
      (∀ (j : Nat) cs t (fr : Nat × Nat), W.heap[j]? = some (Obj.cells cs t fr) → t ≠ 9 → W1.heap[j]? = some (Obj.cells cs t fr)) ∧ Boxed W1 (B + 4) 28 (.slice a k cp) ∧ W2 = W1.setCell ⟨B + 1 + 1 + 1 + 1, 0, none⟩ (.slice (some ⟨g, 0, none⟩) (k + 1) cap) ∧
      Boxed W2 (B + 4) 28 (.slice (some ⟨g, 0, none⟩) (k + 1) cap) ∧ W2.ownsRow B0 9 1 (.slice (some ⟨g, 0, none⟩) (k + 1) cap) (k + 1) (strs (outs ++ [s])) ∧ KeepsOthers W W2 ∧ Below (B + 4) W W2 ∧
      (∀ j cs t fr, W.heap[j]? = some (.cells cs t fr) → t ≠ 9 → j ≠ B + 4 → W2.heap[j]? = some (.cells cs t fr)) ∧ (∀ j o, j < B0 → j ≠ B + 4 → W.heap[j]? = some o → W2.heap[j]? = some o) := by
  have hi : (Tryd.prog.info? 9).map (fun i => (i.zero, i.size, i.bytes)) = some (some (Value.string ⟨#[]⟩), 1, 16) := by kernel_rfl
  obtain ⟨i0, hi0, hz0, hz1, hz2⟩ := info_parts hi
  have hrow1 : (W.alloc (.cells #[.string ⟨s.toArray⟩] 9)).ownsRow B0 9 1 (.slice a k cp) k (strs outs) := hrow.alloc _
  obtain ⟨v', W1, hr, hown, hg, _⟩ := run_append_own (P := Tryd.prog) (W.alloc (.cells #[.string ⟨s.toArray⟩] 9)) B0 28 28 9 i0 _ 1 16 Tryd.underlying28 hi0 hz0 hz1 hz2 rfl (by decide) (.slice a k cp) k (strs outs) hrow1 ⟨W.heap.size, 0, none⟩ 1 1 [.string ⟨s.toArray⟩] rfl
    (World.news_of_block (by simpa using heap_alloc_last W (.cells #[.string ⟨s.toArray⟩] 9))) (fun u hu => by rw [List.mem_singleton.1 hu]; rfl) (by unfold maxLen; omega) (by omega) (by rw [World.size_alloc]; omega)
  obtain ⟨g, cap, rfl⟩ := ownsRow_succ hown
  have hblk : ∀ j, (Value.slice a k cp).ownBlock = some j → B0 ≤ j ∧ ∃ cs fr, W.heap[j]? = some (.cells cs 9 fr) := fun j hj => by
    rcases hrow.2 with ⟨e, _⟩ | ⟨g', cp', cur, e, hb, hgb, _⟩
    · rw [e] at hj; simp [Value.ownBlock] at hj
    · rw [e] at hj
      have : g' = j := by simpa [Value.ownBlock] using hj
      subst this
      exact ⟨hb, _, _, hgb⟩
  have hfar : ∀ j o, W.heap[j]? = some o → (Value.slice a k cp).ownBlock ≠ some j → W1.heap[j]? = some o := fun j o ho hne =>
    (hg.block j (by rw [World.size_alloc]; have := (Array.getElem?_eq_some_iff.1 ho).1; omega) (fun e => hne e.symm)).trans ((Below.heap_alloc W _ _ (Array.getElem?_eq_some_iff.1 ho).1).trans ho)
  have hlow : ∀ j, j < B0 → (Value.slice a k cp).ownBlock ≠ some j := fun j hj e => by have := (hblk j e).1; omega
  have x1 : Boxed W1 (B + 4) 28 (.slice a k cp) := hfar _ _ h4 (hlow _ (by omega))
  have hset : ∀ j o, W1.heap[j]? = some o → j ≠ B + 4 → (W1.setCell ⟨B + 1 + 1 + 1 + 1, 0, none⟩ (.slice (some ⟨g, 0, none⟩) (k + 1) cap)).heap[j]? = some o := fun j o ho hne => (Below.heap_setCell W1 _ _ j hne).trans ho
  have hgge : B0 ≤ g := by
    rcases hown.2 with ⟨e, _⟩ | ⟨g', cp', cur, e, hb, hgb, _⟩
    · cases e
    · injection e with e1 _ _
      injection e1 with e1
      injection e1 with e1
      subst e1; exact hb
  refine ⟨g, cap, W1, _, hr, (fun j cs t fr ho hne => hfar j _ ho fun e => by obtain ⟨_, cs', fr', h⟩ := hblk j e; rw [ho] at h; cases h; exact hne rfl), x1, rfl, x1.set _, ?_, ⟨?_, fun j o ho hnc => ?_⟩, ?_, fun j cs t fr ho hne hj => ?_, fun j o hj hne ho => ?_⟩
  · have := hown.kept (grownBy_setCell' W1 (B + 4) (.slice (some ⟨g, 0, none⟩) (k + 1) cap)) (.inr (by simp [Value.ownBlock]; omega))
    rw [strs_snoc]; exact this
  · have := hg.size; rw [World.size_alloc] at this; simp; omega
  · refine hset j o (hfar j o ho fun e => ?_) fun e => ?_
    · obtain ⟨_, cs, fr, h⟩ := hblk j e; rw [ho] at h; cases h; cases hnc
    · subst e; rw [h4] at ho; cases ho; cases hnc
  · exact (((Below.refl (B + 4) W).alloc (by omega) _).grown hg (by simp; omega) (fun j ej => by have := (hblk j ej).1; omega)).setCell (p := ⟨B + 4, 0, none⟩) (Nat.le_refl _) _
  · exact hset j _ (hfar j _ ho fun e => by obtain ⟨_, cs', fr', h⟩ := hblk j e; rw [ho] at h; cases h; exact hne rfl) hj
  · exact hset j o (hfar j o ho (hlow j hj)) hne
theorem app_op {W W1 : World} {s x v : Value} {ty : TypeId} (hr : (Builtin.append_ #[ty, ty] ty #[s, x]).run Tryd.prog W = .ok v W1) (i j : Tmp) (ρ : Operand → Value) (o : Oper) (h1 : o.op = .call { callee := .builtin .append, args := #[.tmp i, .tmp j], argTypes := #[ty, ty] }) (h2 : o.type = ty) (h3 : ρ (.tmp i) = s) (h4 : ρ (.tmp j) = x) :
    (execOp ρ o).run Tryd.prog W = .ok (.value v) W1 := exec_append (.tmp i) (.tmp j) ty h1 (by rw [h2, h3, h4]; exact hr)
theorem join_at {W : World} {B0 g cap k : Nat} {l : List (List UInt8)} (h : W.ownsRow B0 9 1 (.slice (some ⟨g, 0, none⟩) k cap) k (strs l)) (hk : l.length = k) (hs : ∀ s ∈ l, s.length ≤ 51) (hl : l.length ≤ 5000) :
    Calls Tryd.prog 57 #[.slice (some ⟨g, 0, none⟩) k cap, .string (⟨#[]⟩ : ByteArray)] W fun e w' => e = .returned (.string ⟨l.flatten.toArray⟩) ∧ NewMem W w' := by
  subst hk
  have hxl : (l.map fun s => (⟨s.toArray⟩ : ByteArray)).length = l.length := by simp
  have hfl : ((l.map fun s => (⟨s.toArray⟩ : ByteArray)).map (·.data.toList)) = l := by rw [List.map_map]; simp [Function.comp_def]
  have hlen : (Lib.join l []).length ≤ 140737488355328 := by rw [join_nil]; have := flat_len 51 l hs; omega
  have hc := h.cells rfl
  have hcap : l.length ≤ cap := by
    rcases h.2 with ⟨e, _⟩ | ⟨g', cp', cur, e, hb, hgb, hle, hrest⟩
    · cases e
    · injection e with e1 e2 e3
      subst e3; omega
  have hcells : ∀ (j : Nat) x, (l.map fun s => (⟨s.toArray⟩ : ByteArray))[j]? = some x → W.cell? ⟨g, 0 + j, none⟩ = some (.string x) := fun j x hx => by
    have h2 : (strs l)[j]? = some (.string x) := by
      unfold strs
      rw [List.getElem?_map] at hx ⊢
      cases hl : l[j]? with
      | none => rw [hl] at hx; cases hx
      | some s => rw [hl] at hx; simp only [Option.map_some] at hx ⊢; injection hx with hx; rw [hx]
    have h3 := hc j _ h2
    have hadd : (⟨g, 0, none⟩ : Addr).add j = ⟨g, 0 + j, none⟩ := by unfold Addr.add; split <;> simp_all
    rw [hadd] at h3
    exact h3
  have := Tryd.strings_Join g 0 cap (l.map fun s => (⟨s.toArray⟩ : ByteArray)) ⟨#[]⟩ W hcells (own_lt h) (by rw [hxl]; omega) (by rw [hxl]; exact hcap) (by rw [hfl]; exact hlen)
  rw [hfl, hxl] at this
  refine this.mono ?_
  rintro e w' ⟨he, hb⟩
  exact ⟨by rw [he, ← join_nil l], hb⟩
theorem own_ge {W : World} {B0 k : Nat} {e : TypeId} {s n : Nat} {v : Value} {xs : List Value} (h : W.ownsRow B0 e s v n xs) (hk : v.ownBlock = some k) : B0 ≤ k := by
  rcases h.2 with ⟨e, _⟩ | ⟨g', cp', cur, e, hb, hgb, _⟩
  · rw [e] at hk; simp [Value.ownBlock] at hk
  · rw [e] at hk
    have : g' = k := by simpa [Value.ownBlock] using hk
    omega
/-- The results' boxes while the round's last region runs. -/
structure ThreeS (w2 : World) (B : Nat) (a b c : Value) (L : Nat → Bool) (W : World) : Prop where
  mod : Mod (fun k => k = B + 1 ∨ k = B + 2 ∨ k = B + 3) w2 W
  one : ∃ u, Boxed W (B + 1) 9 u ∧ (L 5 = true → u = a)
  two : ∃ u, Boxed W (B + 2) 3 u ∧ (L 6 = true → u = b)
  three : ∃ u, Boxed W (B + 3) 3 u ∧ (L 7 = true → u = c)
theorem ThreeS.new {w2 W W' : World} {B : Nat} {a b c : Value} {L : Nat → Bool} (h : ThreeS w2 B a b c L W) (hn : NewMem W W') (i : Nat) (hi : i < 5) : ThreeS w2 B a b c (fun k => if k = i then true else L k) W' := by
  obtain ⟨hm, ⟨u1, x1, y1⟩, ⟨u2, x2, y2⟩, ⟨u3, x3, y3⟩⟩ := h
  exact ⟨hm.trans (Mod.of_below (F := fun _ => False) hn) (fun _ h => h.elim), ⟨u1, (hn.block _ x1.lt).trans x1, fun e => y1 (by rwa [if_neg (by omega)] at e)⟩, ⟨u2, (hn.block _ x2.lt).trans x2, fun e => y2 (by rwa [if_neg (by omega)] at e)⟩, ⟨u3, (hn.block _ x3.lt).trans x3, fun e => y3 (by rwa [if_neg (by omega)] at e)⟩⟩
theorem ThreeS.set1 {w2 W : World} {B : Nat} {a b c : Value} {L : Nat → Bool} (h : ThreeS w2 B a b c L W) : ThreeS w2 B a b c (fun k => if k = 5 then true else L k) (W.setCell ⟨B + 1, 0, none⟩ a) := by
  obtain ⟨hm, ⟨u1, x1, y1⟩, ⟨u2, x2, y2⟩, ⟨u3, x3, y3⟩⟩ := h
  exact ⟨hm.trans (Mod.setCell (F := fun k => k = B + 1) _ _ _ rfl) (fun i h => .inl (.inl h)), ⟨a, x1.set _, fun _ => rfl⟩, ⟨u2, x2.other (by omega) _, fun e => y2 (by rwa [if_neg (by omega)] at e)⟩, ⟨u3, x3.other (by omega) _, fun e => y3 (by rwa [if_neg (by omega)] at e)⟩⟩
theorem ThreeS.set2 {w2 W : World} {B : Nat} {a b c : Value} {L : Nat → Bool} (h : ThreeS w2 B a b c L W) : ThreeS w2 B a b c (fun k => if k = 6 then true else L k) (W.setCell ⟨B + 1 + 1, 0, none⟩ b) := by
  obtain ⟨hm, ⟨u1, x1, y1⟩, ⟨u2, x2, y2⟩, ⟨u3, x3, y3⟩⟩ := h
  exact ⟨hm.trans (Mod.setCell (F := fun k => k = B + 2) _ _ _ rfl) (fun i h => .inl (.inr (.inl h))), ⟨u1, x1.other (by omega) _, fun e => y1 (by rwa [if_neg (by omega)] at e)⟩, ⟨b, x2.set _, fun _ => rfl⟩, ⟨u3, x3.other (by omega) _, fun e => y3 (by rwa [if_neg (by omega)] at e)⟩⟩
theorem ThreeS.set3 {w2 W : World} {B : Nat} {a b c : Value} {L : Nat → Bool} (h : ThreeS w2 B a b c L W) : ThreeS w2 B a b c (fun k => if k = 7 then true else L k) (W.setCell ⟨B + 1 + 1 + 1, 0, none⟩ c) := by
  obtain ⟨hm, ⟨u1, x1, y1⟩, ⟨u2, x2, y2⟩, ⟨u3, x3, y3⟩⟩ := h
  exact ⟨hm.trans (Mod.setCell (F := fun k => k = B + 3) _ _ _ rfl) (fun i h => .inl (.inr (.inr h))), ⟨u1, x1.other (by omega) _, fun e => y1 (by rwa [if_neg (by omega)] at e)⟩, ⟨u2, x2.other (by omega) _, fun e => y2 (by rwa [if_neg (by omega)] at e)⟩, ⟨c, x3.set _, fun _ => rfl⟩⟩
/-- Behind the region: the round is left. -/
theorem three_exit {D : DS} {n B B0 : Nat} {pre : List Nat} {w2 W Wb w : World} {r : Option (List (List UInt8) × Nat)} {a b c u1 u2 u3 : Value} {L : Nat → Bool} (h : ThreeS w2 B a b c L W) (h5 : L 5 = true) (h6 : L 6 = true) (h7 : L 7 = true) (h1 : Boxed w2 (B + 1) 9 u1) (h2 : Boxed w2 (B + 2) 3 u2) (h3 : Boxed w2 (B + 3) 3 u3)
    (hr : ∀ js, recL D n (pre ++ js) 0 [] = r) (hk : KeepsFrom B0 Wb w2) (hw : Below B w w2) (ha : a = .string ⟨(recV r).1.toArray⟩) (hb : b = .int .i64 ((recV r).2.1 : Int)) (hc : c = .int .i64 ((recV r).2.2 : Int)) :
    KeepsFrom B0 Wb W ∧ (Code.ret = .ret ∧ RecX D n B pre W) ∧ Below B w W := by
  obtain ⟨hm, ⟨v1, x1, y1⟩, ⟨v2, x2, y2⟩, ⟨v3, x3, y3⟩⟩ := h
  have e1 := (y1 h5).trans ha
  have e2 := (y2 h6).trans hb
  have e3 := (y3 h7).trans hc
  subst e1; subst e2; subst e3
  refine ⟨hk.trans (KeepsOthers.from (show KeepsOthers w2 W from ⟨hm.size, fun k o ho hnc => ?_⟩) _), ⟨rfl, r, hr, x1, x2, x3⟩, hw.trans (hm.below (by have := h1.lt; omega) (fun i hi => by omega))⟩
  refine (hm.block k (Array.getElem?_eq_some_iff.1 ho).1 ?_).trans ho
  rintro (rfl | rfl | rfl)
  · rw [show w2.heap[B + 1]? = _ from h1] at ho; cases ho; cases hnc
  · rw [show w2.heap[B + 2]? = _ from h2] at ho; cases ho; cases hnc
  · rw [show w2.heap[B + 3]? = _ from h3] at ho; cases ho; cases hnc
end Go.Proofs.YteljihpheffjnaaDoor.Tape
/- tape.record: the bytes of the record n from a sector on. -/
namespace Go.Proofs.YteljihpheffjnaaDoor.Tape
open Go.RowKit Go.Proofs.YteljihpheffjnaaDoor.Ord Go.Proofs.YteljihpheffjnaaDoorW.PrintWords Go.Proofs.YteljihpheffjnaaDoor.Base Go.Proofs.YteljihpheffjnaaDoor.Drum
open Go.Shelf
set_option linter.unusedVariables false
set_option linter.unusedSimpArgs false
attribute [local go_sem] Oper.semAt_some rdl_const rdl_func rdl_global rdl_nil rdl_cons
attribute [local irreducible] OpGives

/-- The results' boxes, written; the round is left. -/
theorem rec_exit {D : DS} {n B B0 : Nat} {pre : List Nat} {W Wb w : World} {r : Option (List (List UInt8) × Nat)} {u1 u2 u3 : Value} (h1 : Boxed W (B + 1) 9 u1) (h2 : Boxed W (B + 2) 3 u2) (h3 : Boxed W (B + 3) 3 u3) (hr : ∀ js, recL D n (pre ++ js) 0 [] = r)
    (hk : KeepsFrom B0 Wb W) (hw : Below B w W) (a b c : Value) (ha : a = .string ⟨(recV r).1.toArray⟩) (hb : b = .int .i64 ((recV r).2.1 : Int)) (hc : c = .int .i64 ((recV r).2.2 : Int)) :
    KeepsFrom B0 Wb (((W.setCell ⟨B + 1, 0, none⟩ a).setCell ⟨B + 1 + 1, 0, none⟩ b).setCell ⟨B + 1 + 1 + 1, 0, none⟩ c) ∧ (Code.ret = .ret ∧ RecX D n B pre (((W.setCell ⟨B + 1, 0, none⟩ a).setCell ⟨B + 1 + 1, 0, none⟩ b).setCell ⟨B + 1 + 1 + 1, 0, none⟩ c)) ∧
      Below B w (((W.setCell ⟨B + 1, 0, none⟩ a).setCell ⟨B + 1 + 1, 0, none⟩ b).setCell ⟨B + 1 + 1 + 1, 0, none⟩ c) := by
  subst ha; subst hb; subst hc
  refine ⟨hk.trans ((((KeepsOthers.setCell _ _ _).trans (KeepsOthers.setCell _ _ _)).trans (KeepsOthers.setCell _ _ _)).from _), ⟨rfl, r, hr, ?_, ?_, ?_⟩, ((hw.setCell (p := ⟨B + 1, 0, none⟩) (by simp) _).setCell (p := ⟨B + 1 + 1, 0, none⟩) (by simp; omega) _).setCell (p := ⟨B + 1 + 1 + 1, 0, none⟩) (by simp; omega) _⟩
  · exact ((h1.set _).other (by omega) _).other (by omega) _
  · exact ((h2.other (B' := B + 1) (by omega) _).set _).other (by omega) _
  · exact ((h3.other (B' := B + 1) (by omega) _).other (B' := B + 1 + 1) (by omega) _).set _
def recOs (b at_ n : Nat) : List Obj := [.cells #[.int .i64 (n : Int)] 3, .cells #[.string ByteArray.empty] 9, .cells #[.int .i64 0] 3, .cells #[.int .i64 0] 3, .cells #[.slice none 0 0] 28, .cells #[.int .i64 0] 3, .cells #[.pointer (some ⟨b, 0, none⟩)] 24, .cells #[.int .i64 (at_ : Int)] 3]
theorem recI_own (D : DS) (n B B0 : Nat) {C : Nat} : OwnFrom C (fun (pre : List Nat) W => ∃ outs lf v, RecI D n B B0 pre W outs lf v) := by
  rintro pre X Y row ⟨outs, lf, v, h⟩ hg hr
  have hb := block_own (β := Unit) (B + 4) #[v] 28 (0, 0) C () X Y row h.box hg hr
  have hl := block_own (β := Unit) (B + 5) #[.int .i64 (lf : Int)] 3 (0, 0) C () X Y row h.life hg hr
  refine ⟨outs, lf, v, h.len, h.rec_, h.small, hb, h.row.kept hg ?_, hl⟩
  rcases h.row.2 with ⟨e, _⟩ | ⟨g, cap, cur, e, _, hgb, _⟩
  · exact .inl (by rw [e]; rfl)
  · refine .inr fun e' => ?_
    rw [e] at e'
    obtain ⟨_, o, ho, hc⟩ := hr g (by simpa [Value.ownBlock] using e'.symm)
    rw [hgb] at ho; cases ho; cases hc
theorem recX_own (D : DS) (n B : Nat) {C : Nat} : OwnFrom C (fun (pre : List Nat) W => RecX D n B pre W) := by
  rintro pre X Y row ⟨r, h, h1, h2, h3⟩ hg hr
  exact ⟨r, h, block_own (β := Unit) _ _ _ _ C () X Y row h1 hg hr, block_own (β := Unit) _ _ _ _ C () X Y row h2 hg hr, block_own (β := Unit) _ _ _ _ C () X Y row h3 hg hr⟩
set_option maxRecDepth 100000 in
set_option maxHeartbeats 8000000 in
theorem record_at (b sb cap : Nat) (lv : Value) (D : DS) (at_ n : Nat) (w : World) (h : DrumAt w b sb cap lv D) (hd : D.down = false) (hn : D.loose.length ≤ 1000000) (hat : at_ ≤ D.sure.length) :
    Calls Tryd.prog 31 #[.pointer (some ⟨b, 0, none⟩), .int .i64 (at_ : Int), .int .i64 (n : Int)] w fun e w' =>
      e = .returned (.tuple #[.string ⟨(recV (recL D n (List.range' at_ (D.sure.length - at_)) 0 [])).1.toArray⟩, .int .i64 ((recV (recL D n (List.range' at_ (D.sure.length - at_)) 0 [])).2.1 : Int), .int .i64 ((recV (recL D n (List.range' at_ (D.sure.length - at_)) 0 [])).2.2 : Int)]) ∧ NewMem w w' := by
  obtain ⟨W0, hW0⟩ : ∃ W0, (recOs b at_ n).foldl World.alloc w = W0 := ⟨_, rfl⟩
  have hz : W0.heap.size = w.heap.size + 8 := by rw [← hW0, allocs_size]; rfl
  have hw0 : NewMem w W0 := by rw [← hW0]; exact allocs_new _ _
  have bx : ∀ i o, (recOs b at_ n)[i]? = some o → W0.heap[w.heap.size + i]? = some o := fun i o h => by rw [← hW0]; exact allocs_get _ _ _ _ h
  have b0 : Boxed W0 w.heap.size 3 (.int .i64 (n : Int)) := bx 0 _ rfl
  have b1 : Boxed W0 (w.heap.size + 1) 9 (.string ByteArray.empty) := bx 1 _ rfl
  have b2 : Boxed W0 (w.heap.size + 2) 3 (.int .i64 0) := bx 2 _ rfl
  have b3 : Boxed W0 (w.heap.size + 3) 3 (.int .i64 0) := bx 3 _ rfl
  have b4 : Boxed W0 (w.heap.size + 4) 28 (.slice none 0 0) := bx 4 _ rfl
  have b5 : Boxed W0 (w.heap.size + 5) 3 (.int .i64 0) := bx 5 _ rfl
  have b6 : Boxed W0 (w.heap.size + 6) 24 (.pointer (some ⟨b, 0, none⟩)) := bx 6 _ rfl
  have b7 : Boxed W0 (w.heap.size + 7) 3 (.int .i64 (at_ : Int)) := bx 7 _ rfl
  clear bx
  have hblk : ∀ k, lv.ownBlock = some k → k < w.heap.size + 4 := fun k hk => by
    rcases h.loose.2 with ⟨e, _⟩ | ⟨g, cp, cur, e, _, hg, _⟩
    · rw [e] at hk; simp [Value.ownBlock] at hk
    · rw [e] at hk
      have : g = k := by simpa [Value.ownBlock] using hk
      subst this
      have := (Array.getElem?_eq_some_iff.1 hg).1
      omega
  have hlow : DrumLow (w.heap.size + 4) W0 b D := ⟨⟨sb, cap, lv, h.kept (F := fun _ => False) (Mod.of_below hw0) (fun _ _ => id), by have := own_lt h.sure; omega, hblk⟩, by have := (Array.getElem?_eq_some_iff.1 h.cell).1; omega, hd, hn⟩
  have hfew := h.few
  have stops := sectors_stops (30 - 1) (by decide) (w.heap.size + 1 + 1 + 1 + 1 + 1 + 1 + 1) (w.heap.size + 1 + 1 + 1 + 1 + 1 + 1) (w.heap.size + 4) b at_ D W0 (by omega) b7 b6 hlow hat
  have STOPS := Lib.hid stops
  have HW0 := Lib.hid hW0
  have HW := Lib.hid hw0
  have HZ := Lib.hid hz
  have B0 := Lib.hid b0
  have B1 := Lib.hid b1
  have B2 := Lib.hid b2
  have B3 := Lib.hid b3
  have B4 := Lib.hid b4
  have B5 := Lib.hid b5
  have HFEW := Lib.hid hfew
  have HAT := Lib.hid hat
  clear stops hW0 hw0 hz b0 b1 b2 b3 b4 b5 b6 b7 hblk hlow h hd hn hfew hat
  refine (callsIn_wide (n := 30)).1 ?_
  refine callsIn_of_wp_marks Tryd.func31 rfl trivial ?_ rfl
  simp only [Tryd.ntmps31, List.size_toArray, List.length_cons, List.length_nil, Nat.reduceAdd, Nat.reduceSub, Array.replicate_succ, Array.replicate_zero, List.push_toArray, List.append_toArray, List.nil_append, List.cons_append]
  gi_wp2_with (refine ⟨trivial, ?_⟩; gi_at_call 56; refine (sectors_in Fence.wide _ trivial rfl _ _ _ rfl rfl).mono ?_; rintro e w' ⟨rfl, rfl⟩)
  change Code.wpIn _ _ _ _ _ _ ((recOs b at_ n).foldl World.alloc w)
  rw [HW0.out]
  refine wpIn_rangeFunc_ownH rfl (by decide) (gf := 72) (lb := #[.pointer (some ⟨w.heap.size + 1 + 1 + 1 + 1 + 1 + 1 + 1, 0, none⟩), .pointer (some ⟨w.heap.size + 1 + 1 + 1 + 1 + 1 + 1, 0, none⟩)]) rfl trivial (enters_of Tryd.func72 (by kernel_rfl) rfl)
    STOPS.out (fun h k => Kp.trans h k) (fun W l o o' hl h h1 h2 => Kp.put (w := W0) (by have := HZ.out; omega) (by have := HZ.out; omega) W l o o' hl h h1 h2) (Below.refl _ _) (by intro x; rfl)
    (fun pre W => (∃ outs lf v, RecI D n w.heap.size W0.heap.size pre W outs lf v) ∧ Kp (w.heap.size + 4) (w.heap.size + 6) W0 W)
    (fun c pre W => (c = .ret ∧ RecX D n w.heap.size pre W) ∧ Below w.heap.size w W)
    (OwnFrom.and (recI_own _ _ _ _) (kp_own (by have := HZ.out; omega) (by have := HZ.out; omega) (by have := HZ.out; omega)))
    (fun c => OwnFrom.and (fun s A B row h hg hr => ⟨h.1, recX_own (C := W0.heap.size) D n w.heap.size s A B row h.2 hg hr⟩) (ownFrom_below (Nat.le_refl _) (by have := HZ.out; omega)))
    ⟨⟨[], 0, .slice none 0 0, rfl, fun js => rfl, (fun s hs => by cases hs), B4.out, ⟨rfl, .inl ⟨rfl, rfl⟩⟩, B5.out⟩, Kp.refl _ _ _⟩
    (fun x a' W => ∃ Bx, W0.heap.size ≤ Bx ∧ W.heap[Bx]? = some (.cells (secCs (DS.sec D x)) 67 (0, 0)) ∧ a' = { tmps := #[Value.pointer (some { block := b, off := 0 }), Value.int IntKind.i64 at_, Value.int IntKind.i64 n, undef,
          undef, Value.pointer (some { block := w.heap.size, off := 0 }),
          Value.pointer (some { block := w.heap.size + 1, off := 0 }),
          Value.pointer (some { block := w.heap.size + 1 + 1, off := 0 }),
          Value.pointer (some { block := w.heap.size + 1 + 1 + 1, off := 0 }),
          Value.pointer (some { block := w.heap.size + 1 + 1 + 1 + 1, off := 0 }),
          Value.pointer (some { block := w.heap.size + 1 + 1 + 1 + 1 + 1, off := 0 }), Value.pointer (some { block := Bx, off := 0 }), .bool (DS.sec D x).isSome, undef,
          Value.pointer (some { block := b, off := 0 }), Value.int IntKind.i64 at_,
          Value.func (Fn.func 72) #[]
            #[Value.pointer (some { block := w.heap.size + 1 + 1 + 1 + 1 + 1 + 1 + 1, off := 0 }),
              Value.pointer (some { block := w.heap.size + 1 + 1 + 1 + 1 + 1 + 1, off := 0 })],
          .agg (secCs (DS.sec D x)), .bool (DS.sec D x).isSome, undef, undef, undef, undef, undef, undef, undef, undef, undef, undef, undef, undef, undef, undef, undef, undef, undef, undef, undef, undef, undef, undef, undef, undef, undef, undef, undef, undef, undef, undef, undef, undef, undef, undef, undef, undef, undef, undef], defers := [] })
    (fun x a' s X Y row hs hg hr => by obtain ⟨Bx, h1, h2, h3⟩ := hs; exact ⟨Bx, h1, block_own _ _ _ _ W0.heap.size () X Y row h2 hg hr, h3⟩)
    ?assign ?body ?done ?stop
  case assign =>
    rintro l pre x W K ⟨hlf, hkp⟩ hK
    have hinfo := sec_info (DS.sec D x)
    have HI := Lib.hid hinfo
    have HLF := Lib.hid hlf
    have HKP := Lib.hid hkp
    have HK := Lib.hid hK
    clear hinfo hlf hkp hK
    unfold encSec
    generalize DS.sec D x = o at *
    gi_wp2_with (refine wpListIn_skipped rfl (fun _ h => by cases h) rfl (exec_store_row 67 _ _ rfl W.heap.size (secCs o) rfl rfl 67 _ (heap_alloc_last _ _) HI.out.1 HI.out.2.1 HI.out.2.2) ?_; rw [World.setRow_alloc_new])
    have hsz : w.heap.size + 4 ≤ W.heap.size := Nat.le_trans (by have := HZ.out; omega) HKP.out.1.size
    exact HK.out _ _ ((KeepsOthers.alloc _ _).from _) (Kp.of_new (NewMem.alloc _ _) hsz) ⟨recI_own D n w.heap.size W0.heap.size (C := 0) pre W _ none HLF.out (World.grownBy_alloc W _ none) (fun r e => by cases e), HKP.out.trans (Kp.of_new (NewMem.alloc _ _) hsz)⟩ ⟨W.heap.size, HKP.out.1.size, heap_alloc_last _ _, rfl⟩
  case body =>
    rintro l pre x a' W hl ⟨r, hr⟩ ⟨⟨outs, lf, v, hI⟩, hkp⟩ ⟨Bx, hBx, hcell, rfl⟩ hlt
    have hN : outs.length ≤ 4096 := by have := hI.len; have := HFEW.out; omega
    obtain ⟨a, cp, hv⟩ : ∃ a cp, v = .slice a outs.length cp := by
      rcases hI.row.2 with ⟨e, h0⟩ | ⟨g, cp, cur, e, _⟩
      · exact ⟨none, 0, by rw [e, h0]⟩
      · exact ⟨_, cp, e⟩
    subst hv
    have q0 : Boxed W w.heap.size 3 (.int .i64 (n : Int)) := (hkp.1.block _ (by omega)).trans B0.out
    have q1 : Boxed W (w.heap.size + 1) 9 (.string ByteArray.empty) := (hkp.1.block _ (by omega)).trans B1.out
    have q2 : Boxed W (w.heap.size + 1 + 1) 3 (.int .i64 0) := (hkp.1.block _ (by omega)).trans B2.out
    have q3 : Boxed W (w.heap.size + 1 + 1 + 1) 3 (.int .i64 0) := (hkp.1.block _ (by omega)).trans B3.out
    have c0 := q0.cell
    have c1 := q1.cell
    have c2 := q2.cell
    have c3 := q3.cell
    have f1 := q1.frozen
    have f2 := q2.frozen
    have f3 := q3.frozen
    have c4 : W.cell? ⟨w.heap.size + 1 + 1 + 1 + 1, 0, none⟩ = some (.slice a outs.length cp) := hI.box.cell
    have f4 : W.frozen? ⟨w.heap.size + 1 + 1 + 1 + 1, 0, none⟩ = false := hI.box.frozen
    have c5 : W.cell? ⟨w.heap.size + 1 + 1 + 1 + 1 + 1, 0, none⟩ = some (.int .i64 (lf : Int)) := hI.life.cell
    have f5 : W.frozen? ⟨w.heap.size + 1 + 1 + 1 + 1 + 1, 0, none⟩ = false := hI.life.frozen
    have hB : Below w.heap.size w W := Below.trans HW.out (hkp.1.mono (by omega))
    have hstep : ∀ js, recL D n (pre ++ [x] ++ js) 0 [] = recL D n (x :: js) lf outs := fun js => by rw [List.append_assoc]; exact hI.rec_ _
    have Q1 := Lib.hid q1
    have Q2 := Lib.hid q2
    have Q3 := Lib.hid q3
    have HI := Lib.hid hI
    have HKP := Lib.hid hkp
    have HBB := Lib.hid hB
    have HST := Lib.hid hstep
    have HN := Lib.hid hN
    clear q0 q1 q2 q3 hI hkp hB hstep hr hl hlt hN
    cases hs : DS.sec D x with
    | none =>
      rw [hs] at hcell
      have d0 : W.cell? ⟨Bx, 0, none⟩ = some (.int .i64 0) := by rw [Lib.cell_of_heap hcell]; rfl
      have HS := Lib.hid hs
      clear hcell hs
      simp only [Option.isSome_none]
      by_cases h0 : outs.length = 0
      · gi_wp2
        refine rec_exit (r := none) (W := (W.setCell ⟨w.heap.size + 5, 0, none⟩ (.int .i64 (0 : Int)))) (Q1.out.other (B' := w.heap.size + 5) (by omega) _) (Q2.out.other (B' := w.heap.size + 5) (by omega) _) (Q3.out.other (B' := w.heap.size + 5) (by omega) _) (fun js => ?_) ((KeepsOthers.setCell _ _ _).from _) (HBB.out.setCell (p := ⟨w.heap.size + 5, 0, none⟩) (by simp) _) _ _ _ rfl rfl rfl
        rw [HST.out]; simp [recL, HS.out]
      · gi_wp2
        refine rec_exit (r := none) (W := W) Q1.out Q2.out Q3.out (fun js => ?_) (KeepsFrom.refl _ _) HBB.out _ _ _ rfl rfl rfl
        rw [HST.out]; simp [recL, HS.out]
    | some s =>
      obtain ⟨life, record, part, last, str⟩ := s
      rw [hs] at hcell
      have d0 : W.cell? ⟨Bx, 0, none⟩ = some (.int .i64 (life : Int)) := by rw [Lib.cell_of_heap hcell]; rfl
      have d1 : W.cell? ⟨Bx, 1, none⟩ = some (.int .i64 (record : Int)) := by rw [Lib.cell_of_heap hcell]; rfl
      have d2 : W.cell? ⟨Bx, 2, none⟩ = some (.int .i64 (part : Int)) := by rw [Lib.cell_of_heap hcell]; rfl
      have d3 : W.cell? ⟨Bx, 3, none⟩ = some (.bool last) := by rw [Lib.cell_of_heap hcell]; rfl
      have d4 : W.cell? ⟨Bx, 4, none⟩ = some (.string ⟨str.toArray⟩) := by rw [Lib.cell_of_heap hcell]; rfl
      have hbx : ¬ Bx = w.heap.size + 1 + 1 + 1 + 1 + 1 := by have := HZ.out; omega
      have hbx' : ¬ w.heap.size + 1 + 1 + 1 + 1 + 1 = Bx := by omega
      have HS := Lib.hid hs
      have HCELL := Lib.hid hcell
      clear hcell hs
      simp only [Option.isSome_some]
      by_cases h0 : outs.length = 0
      · skip
        by_cases h1 : record = n
        · by_cases h2 : part = outs.length
          · skip
            obtain ⟨gb, cap, W1, W2, hr, yt, y4, e2, z4, zrow, zk, zb, zt, zo⟩ := rec_push (W := (W.setCell ⟨w.heap.size + 1 + 1 + 1 + 1 + 1, 0, none⟩ (.int .i64 (life : Int)))) (B := w.heap.size) (B0 := W0.heap.size) str (HI.out.box.other (B' := w.heap.size + 5) (by omega) _) (row_other (j := w.heap.size + 5) HI.out.row (by have := HZ.out; omega) _) (by have := HZ.out; omega) (Nat.le_trans HKP.out.1.size (by simp)) (by have := HN.out; omega)
            have hbx5 : (W.setCell ⟨w.heap.size + 1 + 1 + 1 + 1 + 1, 0, none⟩ (.int .i64 (life : Int))).heap[Bx]? = some (.cells (secCs (some ⟨life, record, part, last, str⟩)) 67 (0, 0)) := (Below.heap_setCell W _ _ Bx (by have := HZ.out; omega)).trans HCELL.out
            have k5 : (W.setCell ⟨w.heap.size + 1 + 1 + 1 + 1 + 1, 0, none⟩ (.int .i64 (life : Int))).heap[w.heap.size + 5]? = some (.cells #[.int .i64 (life : Int)] 3 (0, 0)) := Boxed.set (t := 3) _ HI.out.life
            have kw1 : KeepsFrom W0.heap.size W (W.setCell ⟨w.heap.size + 1 + 1 + 1 + 1 + 1, 0, none⟩ (.int .i64 (life : Int))) := (KeepsOthers.setCell _ _ _).from _
            have kw2 : Kp (w.heap.size + 4) (w.heap.size + 6) W (W.setCell ⟨w.heap.size + 1 + 1 + 1 + 1 + 1, 0, none⟩ (.int .i64 (life : Int))) := Kp.set (B := w.heap.size + 5) (by omega) (by omega) W _
            have x3 : W1.cell? ⟨Bx, 3, none⟩ = some (.bool last) := by rw [Lib.cell_of_heap (yt _ _ _ _ hbx5 (by decide))]; rfl
            have x4 := y4.cell
            have x5 := y4.frozen
            have z5 : W2.heap[w.heap.size + 5]? = some (.cells #[.int .i64 (life : Int)] 3 (0, 0)) := zt _ _ _ _ k5 (by decide) (by omega)
            have z1 : Boxed W2 (w.heap.size + 1) 9 (.string ByteArray.empty) := zo _ _ (by have := HZ.out; omega) (by omega) (Q1.out.other (B' := w.heap.size + 5) (by omega) _)
            have z2 : Boxed W2 (w.heap.size + 2) 3 (.int .i64 0) := zo _ _ (by have := HZ.out; omega) (by omega) (Q2.out.other (B' := w.heap.size + 5) (by omega) _)
            have z3 : Boxed W2 (w.heap.size + 3) 3 (.int .i64 0) := zo _ _ (by have := HZ.out; omega) (by omega) (Q3.out.other (B' := w.heap.size + 5) (by omega) _)
            have hkf : KeepsFrom W0.heap.size W W2 := kw1.trans (zk.from _)
            have hkp : Kp (w.heap.size + 4) (w.heap.size + 6) W W2 := kw2.trans ⟨zb, fun o ho => zo _ _ (by have := HZ.out; omega) (by omega) ho⟩
            have hnext : ∀ js, recL D n (pre ++ [x] ++ js) 0 [] = if last = true then some (outs ++ [str], life) else recL D n js life (outs ++ [str]) := fun js => by rw [HST.out]; simp [recL, HS.out, h1, h2, h0]
            rw [h0, Go.Deep.nblk_setCell, Nat.zero_add] at hr
            have e2 := e2
            rw [h0, Nat.zero_add] at e2
            have HR := Lib.hid hr
            have HE := Lib.hid e2
            have Z := Lib.hid (And.intro z1 (And.intro z2 (And.intro z3 (And.intro z4 z5))))
            have ZR := Lib.hid zrow
            have HKF := Lib.hid hkf
            have HKP2 := Lib.hid hkp
            have HNX := Lib.hid hnext
            have hg4 : ¬ Bx = w.heap.size + 1 + 1 + 1 + 1 := by have := HZ.out; omega
            have hg4' : ¬ w.heap.size + 1 + 1 + 1 + 1 = Bx := by omega
            clear hr yt y4 e2 z4 zrow zk zb zt zo hbx5 k5 kw1 kw2 z5 z1 z2 z3 hkf hkp hnext
            have hz := app_op (ty := 28) HR.out
            have HZZ := Lib.hid hz
            clear hz
            cases last with
            | false =>
              gi_wp2_with (with_reducible show wpListIn _ _ _ _ _ (⟨some 49, _, _, _, _, _⟩ :: _) _ _; refine wpListIn_value rfl (by simp) (by simp [Oper.about, resolve, Target.leads, Sem.run_pure]) (HZZ.out 45 48 _ _ rfl rfl (by simp [go_sem]) (by simp [go_sem])) ?_)
              rw [← HE.out]
              refine ⟨HKF.out, HKP2.out, ⟨outs ++ [str], life, _, by simp [HI.out.len], fun js => by rw [HNX.out]; simp, fun s hs => ?_, Z.out.2.2.2.1, by have := ZR.out; rw [List.length_append]; exact this, Z.out.2.2.2.2⟩, HKP.out.trans HKP2.out⟩
              rcases List.mem_append.1 hs with hs | hs
              · exact HI.out.small s hs
              · rw [List.mem_singleton.1 hs]; exact sec_len HS.out
            | true =>
              have far : ∀ W', Mod (fun k => k = w.heap.size + 1 ∨ k = w.heap.size + 2 ∨ k = w.heap.size + 3) W2 W' → Boxed W' (w.heap.size + 4) 28 (.slice (some ⟨gb, 0, none⟩) (outs.length + 1) cap) ∧ Boxed W' (w.heap.size + 5) 3 (.int .i64 (life : Int)) ∧
                  W'.ownsRow W0.heap.size 9 1 (.slice (some ⟨gb, 0, none⟩) (outs.length + 1) cap) (outs.length + 1) (strs (outs ++ [str])) := fun W' h => by
                obtain ⟨z1, z2, z3, z4, z5⟩ := Z.out
                refine ⟨(h.block _ z4.lt (by omega)).trans z4, (h.block _ (Boxed.lt z5) (by omega)).trans z5, ownsRow_mod ZR.out h fun k hk e => ?_⟩
                have hg := own_ge ZR.out hk
                have hz := HZ.out
                omega
              have FAR := Lib.hid far
              have SM := Lib.hid (show ∀ s ∈ outs ++ [str], s.length ≤ 51 from fun s hs => by
                rcases List.mem_append.1 hs with hs | hs
                · exact HI.out.small s hs
                · rw [List.mem_singleton.1 hs]; exact sec_len HS.out)
              have hlen : (outs ++ [str]).length = outs.length + 1 := by simp
              have HLEN := Lib.hid hlen
              have jn : ∀ W', Mod (fun k => k = w.heap.size + 1 ∨ k = w.heap.size + 2 ∨ k = w.heap.size + 3) W2 W' → ∀ K : Ending → World → Prop, (∀ w', NewMem W' w' → K (.returned (.string ⟨(outs ++ [str]).flatten.toArray⟩)) w') → Calls Tryd.prog 57 #[(.slice (some ⟨gb, 0, none⟩) (outs.length + 1) cap), .string (⟨#[]⟩ : ByteArray)] W' K := fun W' h K hK => (join_at (FAR.out W' h).2.2 HLEN.out SM.out (by have := HLEN.out; have := HN.out; omega)).mono (by rintro e w' ⟨rfl, hn⟩; exact hK w' hn)
              have JN := Lib.hid jn
              clear jn
              clear far hlen
              gi_wp2_with (with_reducible show wpListIn _ _ _ _ _ (⟨some 49, _, _, _, _, _⟩ :: _) _ _; refine wpListIn_value rfl (by simp) (by simp [Oper.about, resolve, Target.leads, Sem.run_pure]) (HZZ.out 45 48 _ _ rfl rfl (by simp [go_sem]) (by simp [go_sem])) ?_)
              rw [← HE.out]
              refine' wp_region_factsN (S := (ThreeS W2 w.heap.size (.string ⟨(outs ++ [str]).flatten.toArray⟩) (.int .i64 (life : Int)) (.int .i64 ((outs.length + 1 : Nat) : Int)))) (fun _ _ _ => True) [eqM (.slice (some ⟨gb, 0, none⟩) (outs.length + 1) cap), eqM (.string ⟨(outs ++ [str]).flatten.toArray⟩), eqM (.int .i64 (life : Int)), eqM (.slice (some ⟨gb, 0, none⟩) (outs.length + 1) cap), eqM (.int .i64 ((outs.length + 1 : Nat) : Int)), eqM undef, eqM undef, eqM undef] (by kernel_rfl) (by kernel_rfl) ?hst ?h0 (Ord.stepsM_cons ?s0 (Ord.stepsM_cons ?s1 (Ord.stepsM_cons ?s2 (Ord.stepsM_cons ?s3 (Ord.stepsM_cons ?s4 (Ord.stepsM_cons ?s5 (Ord.stepsM_cons ?s6 (Ord.stepsM_cons ?s7 (Ord.stepsM_nil))))))))) ?fin
              case s0 =>
                intro g W L hL hSW hd
                try simp only [Nat.zero_add, Nat.reduceAdd] at hd ⊢
                with_reducible refine OpGives.pre_reads [] 57 ?_ ?_ ?_
                · rfl
                · kernel_rfl
                simp only [List.map_cons, List.map_nil]
                have c := (FAR.out W hSW.mod).1.cell; refine OpGives.val (w' := W) ?_ ⟨trivial, rfl, hSW.new (NewMem.refl _) _ (by decide)⟩; go_simp
              case s1 =>
                intro g W L hL hSW hd
                try simp only [Nat.zero_add, Nat.reduceAdd] at hd ⊢
                have h0 : g 0 = _ := hd 0 (by decide) (by kernel_rfl)
                with_reducible refine OpGives.pre_reads [(52, 0)] 57 ?_ ?_ ?_
                · rfl
                · kernel_rfl
                simp only [List.map_cons, List.map_nil]
                refine OpGives.call (f := 57) (args := #[.slice (some ⟨gb, 0, none⟩) (outs.length + 1) cap, .string (⟨#[]⟩ : ByteArray)]) (w' := W) ?_ (JN.out W hSW.mod _ (fun w' hn => ⟨_, rfl, trivial, rfl, hSW.new hn 1 (by decide)⟩)); go_simp
              case s2 =>
                intro g W L hL hSW hd
                try simp only [Nat.zero_add, Nat.reduceAdd] at hd ⊢
                with_reducible refine OpGives.pre_reads [] 57 ?_ ?_ ?_
                · rfl
                · kernel_rfl
                simp only [List.map_cons, List.map_nil]
                have c := (FAR.out W hSW.mod).2.1.cell; refine OpGives.val (w' := W) ?_ ⟨trivial, rfl, hSW.new (NewMem.refl _) _ (by decide)⟩; go_simp
              case s3 =>
                intro g W L hL hSW hd
                try simp only [Nat.zero_add, Nat.reduceAdd] at hd ⊢
                with_reducible refine OpGives.pre_reads [] 57 ?_ ?_ ?_
                · rfl
                · kernel_rfl
                simp only [List.map_cons, List.map_nil]
                have c := (FAR.out W hSW.mod).1.cell; refine OpGives.val (w' := W) ?_ ⟨trivial, rfl, hSW.new (NewMem.refl _) _ (by decide)⟩; go_simp
              case s4 =>
                intro g W L hL hSW hd
                try simp only [Nat.zero_add, Nat.reduceAdd] at hd ⊢
                have h3 : g 3 = _ := hd 3 (by decide) (by kernel_rfl)
                with_reducible refine OpGives.pre_reads [(55, 3)] 57 ?_ ?_ ?_
                · rfl
                · kernel_rfl
                simp only [List.map_cons, List.map_nil]
                refine OpGives.val (w' := W) ?_ ⟨trivial, rfl, hSW.new (NewMem.refl _) _ (by decide)⟩; go_simp
              case s5 =>
                intro g W L hL hSW hd
                try simp only [Nat.zero_add, Nat.reduceAdd] at hd ⊢
                have h1 : g 1 = _ := hd 1 (by decide) (by kernel_rfl)
                with_reducible refine OpGives.pre_reads [(53, 1)] 57 ?_ ?_ ?_
                · rfl
                · kernel_rfl
                simp only [List.map_cons, List.map_nil]
                obtain ⟨u, hu, _⟩ := hSW.one; have c := hu.cell; have cf := hu.frozen; refine OpGives.skip (w' := _) ?_ ⟨trivial, rfl, hSW.set1⟩; go_simp
              case s6 =>
                intro g W L hL hSW hd
                try simp only [Nat.zero_add, Nat.reduceAdd] at hd ⊢
                have h2 : g 2 = _ := hd 2 (by decide) (by kernel_rfl)
                with_reducible refine OpGives.pre_reads [(54, 2)] 57 ?_ ?_ ?_
                · rfl
                · kernel_rfl
                simp only [List.map_cons, List.map_nil]
                obtain ⟨u, hu, _⟩ := hSW.two; have c := hu.cell; have cf := hu.frozen; refine OpGives.skip (w' := _) ?_ ⟨trivial, rfl, hSW.set2⟩; go_simp
              case s7 =>
                intro g W L hL hSW hd
                try simp only [Nat.zero_add, Nat.reduceAdd] at hd ⊢
                have h4 : g 4 = _ := hd 4 (by decide) (by kernel_rfl)
                with_reducible refine OpGives.pre_reads [(56, 4)] 57 ?_ ?_ ?_
                · rfl
                · kernel_rfl
                simp only [List.map_cons, List.map_nil]
                obtain ⟨u, hu, _⟩ := hSW.three; have c := hu.cell; have cf := hu.frozen; refine OpGives.skip (w' := _) ?_ ⟨trivial, rfl, hSW.set3⟩; go_simp
              case hst => exact fun i j v w w' _ h _ => st_of (R := fun _ _ => True) (by repeat' first | exact trivial | with_reducible refine StL.eq ?_ | with_reducible refine StL.any ?_) i v w w' h trivial
              case h0 => exact ⟨(Mod.refl _ _).drew, ⟨_, Z.out.1, fun h => by cases h⟩, ⟨_, Z.out.2.1, fun h => by cases h⟩, ⟨_, Z.out.2.2.1, fun h => by cases h⟩⟩
              case fin =>
                intro v W' L hL hSW hf
                clear hf
                refine wpAny_done (by kernel_rfl) ?_ _
                have hx := three_exit hSW (hL 5 (Nat.lt_of_lt_of_eq (by decide : 5 < 8) rfl)) (hL 6 (Nat.lt_of_lt_of_eq (by decide : 6 < 8) rfl)) (hL 7 (Nat.lt_of_lt_of_eq (by decide : 7 < 8) rfl)) Z.out.1 Z.out.2.1 Z.out.2.2.1 (r := some (outs ++ [str], life)) (fun js => by rw [HNX.out]; simp) HKF.out (Below.trans HBB.out (HKP2.out.1.mono (by omega))) rfl rfl (by simp [recV])
                have HXX := Lib.hid hx
                clear hx hSW hL
                generalize Ord.pre _ _ v _ = F
                refine ⟨rfl, ?_⟩
                gi_wp2
                exact ⟨HXX.out.1, ⟨rfl, HXX.out.2.1.2⟩, HXX.out.2.2⟩
          · gi_wp2
            refine rec_exit (r := none) (W := (W.setCell ⟨w.heap.size + 5, 0, none⟩ (.int .i64 (life : Int)))) (Q1.out.other (B' := w.heap.size + 5) (by omega) _) (Q2.out.other (B' := w.heap.size + 5) (by omega) _) (Q3.out.other (B' := w.heap.size + 5) (by omega) _) (fun js => ?_) ((KeepsOthers.setCell _ _ _).from _) (HBB.out.setCell (p := ⟨w.heap.size + 5, 0, none⟩) (by simp) _) _ _ _ rfl rfl rfl
            have h2' : ¬ part = 0 := by omega
            rw [HST.out]; simp [recL, HS.out, h1, h2', h0]
        · gi_wp2
          refine rec_exit (r := none) (W := (W.setCell ⟨w.heap.size + 5, 0, none⟩ (.int .i64 (life : Int)))) (Q1.out.other (B' := w.heap.size + 5) (by omega) _) (Q2.out.other (B' := w.heap.size + 5) (by omega) _) (Q3.out.other (B' := w.heap.size + 5) (by omega) _) (fun js => ?_) ((KeepsOthers.setCell _ _ _).from _) (HBB.out.setCell (p := ⟨w.heap.size + 5, 0, none⟩) (by simp) _) _ _ _ rfl rfl rfl
          rw [HST.out]; simp [recL, HS.out, h1, h0]
      · skip
        by_cases h1 : record = n
        · by_cases h2 : part = outs.length
          · by_cases h3 : life = lf
            · skip
              obtain ⟨gb, cap, W1, W2, hr, yt, y4, e2, z4, zrow, zk, zb, zt, zo⟩ := rec_push (W := W) (B := w.heap.size) (B0 := W0.heap.size) str HI.out.box HI.out.row (by have := HZ.out; omega) HKP.out.1.size (by have := HN.out; omega)
              have hbx5 := HCELL.out
              have k5 : W.heap[w.heap.size + 5]? = some (.cells #[.int .i64 (life : Int)] 3 (0, 0)) := by rw [h3]; exact HI.out.life
              have kw1 : KeepsFrom W0.heap.size W W := KeepsFrom.refl _ _
              have kw2 : Kp (w.heap.size + 4) (w.heap.size + 6) W W := Kp.refl _ _ _
              have x3 : W1.cell? ⟨Bx, 3, none⟩ = some (.bool last) := by rw [Lib.cell_of_heap (yt _ _ _ _ hbx5 (by decide))]; rfl
              have x4 := y4.cell
              have x5 := y4.frozen
              have z5 : W2.heap[w.heap.size + 5]? = some (.cells #[.int .i64 (life : Int)] 3 (0, 0)) := zt _ _ _ _ k5 (by decide) (by omega)
              have z1 : Boxed W2 (w.heap.size + 1) 9 (.string ByteArray.empty) := zo _ _ (by have := HZ.out; omega) (by omega) Q1.out
              have z2 : Boxed W2 (w.heap.size + 2) 3 (.int .i64 0) := zo _ _ (by have := HZ.out; omega) (by omega) Q2.out
              have z3 : Boxed W2 (w.heap.size + 3) 3 (.int .i64 0) := zo _ _ (by have := HZ.out; omega) (by omega) Q3.out
              have hkf : KeepsFrom W0.heap.size W W2 := kw1.trans (zk.from _)
              have hkp : Kp (w.heap.size + 4) (w.heap.size + 6) W W2 := kw2.trans ⟨zb, fun o ho => zo _ _ (by have := HZ.out; omega) (by omega) ho⟩
              have hnext : ∀ js, recL D n (pre ++ [x] ++ js) 0 [] = if last = true then some (outs ++ [str], life) else recL D n js life (outs ++ [str]) := fun js => by rw [HST.out]; simp [recL, HS.out, h1, h2, h0, h3]
              have HR := Lib.hid hr
              have HE := Lib.hid e2
              have Z := Lib.hid (And.intro z1 (And.intro z2 (And.intro z3 (And.intro z4 z5))))
              have ZR := Lib.hid zrow
              have HKF := Lib.hid hkf
              have HKP2 := Lib.hid hkp
              have HNX := Lib.hid hnext
              have hg4 : ¬ Bx = w.heap.size + 1 + 1 + 1 + 1 := by have := HZ.out; omega
              have hg4' : ¬ w.heap.size + 1 + 1 + 1 + 1 = Bx := by omega
              clear hr yt y4 e2 z4 zrow zk zb zt zo hbx5 k5 kw1 kw2 z5 z1 z2 z3 hkf hkp hnext
              have hz := app_op (ty := 28) HR.out
              have HZZ := Lib.hid hz
              clear hz
              cases last with
              | false =>
                gi_wp2_with (with_reducible show wpListIn _ _ _ _ _ (⟨some 49, _, _, _, _, _⟩ :: _) _ _; refine wpListIn_value rfl (by simp) (by simp [Oper.about, resolve, Target.leads, Sem.run_pure]) (HZZ.out 45 48 _ _ rfl rfl (by simp [go_sem]) (by simp [go_sem])) ?_)
                rw [← HE.out]
                refine ⟨HKF.out, HKP2.out, ⟨outs ++ [str], life, _, by simp [HI.out.len], fun js => by rw [HNX.out]; simp, fun s hs => ?_, Z.out.2.2.2.1, by have := ZR.out; rw [List.length_append]; exact this, Z.out.2.2.2.2⟩, HKP.out.trans HKP2.out⟩
                rcases List.mem_append.1 hs with hs | hs
                · exact HI.out.small s hs
                · rw [List.mem_singleton.1 hs]; exact sec_len HS.out
              | true =>
                have far : ∀ W', Mod (fun k => k = w.heap.size + 1 ∨ k = w.heap.size + 2 ∨ k = w.heap.size + 3) W2 W' → Boxed W' (w.heap.size + 4) 28 (.slice (some ⟨gb, 0, none⟩) (outs.length + 1) cap) ∧ Boxed W' (w.heap.size + 5) 3 (.int .i64 (life : Int)) ∧
                    W'.ownsRow W0.heap.size 9 1 (.slice (some ⟨gb, 0, none⟩) (outs.length + 1) cap) (outs.length + 1) (strs (outs ++ [str])) := fun W' h => by
                  obtain ⟨z1, z2, z3, z4, z5⟩ := Z.out
                  refine ⟨(h.block _ z4.lt (by omega)).trans z4, (h.block _ (Boxed.lt z5) (by omega)).trans z5, ownsRow_mod ZR.out h fun k hk e => ?_⟩
                  have hg := own_ge ZR.out hk
                  have hz := HZ.out
                  omega
                have FAR := Lib.hid far
                have SM := Lib.hid (show ∀ s ∈ outs ++ [str], s.length ≤ 51 from fun s hs => by
                  rcases List.mem_append.1 hs with hs | hs
                  · exact HI.out.small s hs
                  · rw [List.mem_singleton.1 hs]; exact sec_len HS.out)
                have hlen : (outs ++ [str]).length = outs.length + 1 := by simp
                have HLEN := Lib.hid hlen
                have jn : ∀ W', Mod (fun k => k = w.heap.size + 1 ∨ k = w.heap.size + 2 ∨ k = w.heap.size + 3) W2 W' → ∀ K : Ending → World → Prop, (∀ w', NewMem W' w' → K (.returned (.string ⟨(outs ++ [str]).flatten.toArray⟩)) w') → Calls Tryd.prog 57 #[(.slice (some ⟨gb, 0, none⟩) (outs.length + 1) cap), .string (⟨#[]⟩ : ByteArray)] W' K := fun W' h K hK => (join_at (FAR.out W' h).2.2 HLEN.out SM.out (by have := HLEN.out; have := HN.out; omega)).mono (by rintro e w' ⟨rfl, hn⟩; exact hK w' hn)
                have JN := Lib.hid jn
                clear jn
                clear far hlen
                gi_wp2_with (with_reducible show wpListIn _ _ _ _ _ (⟨some 49, _, _, _, _, _⟩ :: _) _ _; refine wpListIn_value rfl (by simp) (by simp [Oper.about, resolve, Target.leads, Sem.run_pure]) (HZZ.out 45 48 _ _ rfl rfl (by simp [go_sem]) (by simp [go_sem])) ?_)
                rw [← HE.out]
                refine' wp_region_factsN (S := (ThreeS W2 w.heap.size (.string ⟨(outs ++ [str]).flatten.toArray⟩) (.int .i64 (life : Int)) (.int .i64 ((outs.length + 1 : Nat) : Int)))) (fun _ _ _ => True) [eqM (.slice (some ⟨gb, 0, none⟩) (outs.length + 1) cap), eqM (.string ⟨(outs ++ [str]).flatten.toArray⟩), eqM (.int .i64 (life : Int)), eqM (.slice (some ⟨gb, 0, none⟩) (outs.length + 1) cap), eqM (.int .i64 ((outs.length + 1 : Nat) : Int)), eqM undef, eqM undef, eqM undef] (by kernel_rfl) (by kernel_rfl) ?hst ?h0 (Ord.stepsM_cons ?s0 (Ord.stepsM_cons ?s1 (Ord.stepsM_cons ?s2 (Ord.stepsM_cons ?s3 (Ord.stepsM_cons ?s4 (Ord.stepsM_cons ?s5 (Ord.stepsM_cons ?s6 (Ord.stepsM_cons ?s7 (Ord.stepsM_nil))))))))) ?fin
                case s0 =>
                  intro g W L hL hSW hd
                  try simp only [Nat.zero_add, Nat.reduceAdd] at hd ⊢
                  with_reducible refine OpGives.pre_reads [] 57 ?_ ?_ ?_
                  · rfl
                  · kernel_rfl
                  simp only [List.map_cons, List.map_nil]
                  have c := (FAR.out W hSW.mod).1.cell; refine OpGives.val (w' := W) ?_ ⟨trivial, rfl, hSW.new (NewMem.refl _) _ (by decide)⟩; go_simp
                case s1 =>
                  intro g W L hL hSW hd
                  try simp only [Nat.zero_add, Nat.reduceAdd] at hd ⊢
                  have h0 : g 0 = _ := hd 0 (by decide) (by kernel_rfl)
                  with_reducible refine OpGives.pre_reads [(52, 0)] 57 ?_ ?_ ?_
                  · rfl
                  · kernel_rfl
                  simp only [List.map_cons, List.map_nil]
                  refine OpGives.call (f := 57) (args := #[.slice (some ⟨gb, 0, none⟩) (outs.length + 1) cap, .string (⟨#[]⟩ : ByteArray)]) (w' := W) ?_ (JN.out W hSW.mod _ (fun w' hn => ⟨_, rfl, trivial, rfl, hSW.new hn 1 (by decide)⟩)); go_simp
                case s2 =>
                  intro g W L hL hSW hd
                  try simp only [Nat.zero_add, Nat.reduceAdd] at hd ⊢
                  with_reducible refine OpGives.pre_reads [] 57 ?_ ?_ ?_
                  · rfl
                  · kernel_rfl
                  simp only [List.map_cons, List.map_nil]
                  have c := (FAR.out W hSW.mod).2.1.cell; refine OpGives.val (w' := W) ?_ ⟨trivial, rfl, hSW.new (NewMem.refl _) _ (by decide)⟩; go_simp
                case s3 =>
                  intro g W L hL hSW hd
                  try simp only [Nat.zero_add, Nat.reduceAdd] at hd ⊢
                  with_reducible refine OpGives.pre_reads [] 57 ?_ ?_ ?_
                  · rfl
                  · kernel_rfl
                  simp only [List.map_cons, List.map_nil]
                  have c := (FAR.out W hSW.mod).1.cell; refine OpGives.val (w' := W) ?_ ⟨trivial, rfl, hSW.new (NewMem.refl _) _ (by decide)⟩; go_simp
                case s4 =>
                  intro g W L hL hSW hd
                  try simp only [Nat.zero_add, Nat.reduceAdd] at hd ⊢
                  have h3 : g 3 = _ := hd 3 (by decide) (by kernel_rfl)
                  with_reducible refine OpGives.pre_reads [(55, 3)] 57 ?_ ?_ ?_
                  · rfl
                  · kernel_rfl
                  simp only [List.map_cons, List.map_nil]
                  refine OpGives.val (w' := W) ?_ ⟨trivial, rfl, hSW.new (NewMem.refl _) _ (by decide)⟩; go_simp
                case s5 =>
                  intro g W L hL hSW hd
                  try simp only [Nat.zero_add, Nat.reduceAdd] at hd ⊢
                  have h1 : g 1 = _ := hd 1 (by decide) (by kernel_rfl)
                  with_reducible refine OpGives.pre_reads [(53, 1)] 57 ?_ ?_ ?_
                  · rfl
                  · kernel_rfl
                  simp only [List.map_cons, List.map_nil]
                  obtain ⟨u, hu, _⟩ := hSW.one; have c := hu.cell; have cf := hu.frozen; refine OpGives.skip (w' := _) ?_ ⟨trivial, rfl, hSW.set1⟩; go_simp
                case s6 =>
                  intro g W L hL hSW hd
                  try simp only [Nat.zero_add, Nat.reduceAdd] at hd ⊢
                  have h2 : g 2 = _ := hd 2 (by decide) (by kernel_rfl)
                  with_reducible refine OpGives.pre_reads [(54, 2)] 57 ?_ ?_ ?_
                  · rfl
                  · kernel_rfl
                  simp only [List.map_cons, List.map_nil]
                  obtain ⟨u, hu, _⟩ := hSW.two; have c := hu.cell; have cf := hu.frozen; refine OpGives.skip (w' := _) ?_ ⟨trivial, rfl, hSW.set2⟩; go_simp
                case s7 =>
                  intro g W L hL hSW hd
                  try simp only [Nat.zero_add, Nat.reduceAdd] at hd ⊢
                  have h4 : g 4 = _ := hd 4 (by decide) (by kernel_rfl)
                  with_reducible refine OpGives.pre_reads [(56, 4)] 57 ?_ ?_ ?_
                  · rfl
                  · kernel_rfl
                  simp only [List.map_cons, List.map_nil]
                  obtain ⟨u, hu, _⟩ := hSW.three; have c := hu.cell; have cf := hu.frozen; refine OpGives.skip (w' := _) ?_ ⟨trivial, rfl, hSW.set3⟩; go_simp
                case hst => exact fun i j v w w' _ h _ => st_of (R := fun _ _ => True) (by repeat' first | exact trivial | with_reducible refine StL.eq ?_ | with_reducible refine StL.any ?_) i v w w' h trivial
                case h0 => exact ⟨(Mod.refl _ _).drew, ⟨_, Z.out.1, fun h => by cases h⟩, ⟨_, Z.out.2.1, fun h => by cases h⟩, ⟨_, Z.out.2.2.1, fun h => by cases h⟩⟩
                case fin =>
                  intro v W' L hL hSW hf
                  clear hf
                  refine wpAny_done (by kernel_rfl) ?_ _
                  have hx := three_exit hSW (hL 5 (Nat.lt_of_lt_of_eq (by decide : 5 < 8) rfl)) (hL 6 (Nat.lt_of_lt_of_eq (by decide : 6 < 8) rfl)) (hL 7 (Nat.lt_of_lt_of_eq (by decide : 7 < 8) rfl)) Z.out.1 Z.out.2.1 Z.out.2.2.1 (r := some (outs ++ [str], life)) (fun js => by rw [HNX.out]; simp) HKF.out (Below.trans HBB.out (HKP2.out.1.mono (by omega))) rfl rfl (by simp [recV])
                  have HXX := Lib.hid hx
                  clear hx hSW hL
                  generalize Ord.pre _ _ v _ = F
                  refine ⟨rfl, ?_⟩
                  gi_wp2
                  exact ⟨HXX.out.1, ⟨rfl, HXX.out.2.1.2⟩, HXX.out.2.2⟩
            · gi_wp2
              refine rec_exit (r := none) (W := W) Q1.out Q2.out Q3.out (fun js => ?_) (KeepsFrom.refl _ _) HBB.out _ _ _ rfl rfl rfl
              rw [HST.out]; simp [recL, HS.out, h1, h2, h3, h0]
          · gi_wp2
            refine rec_exit (r := none) (W := W) Q1.out Q2.out Q3.out (fun js => ?_) (KeepsFrom.refl _ _) HBB.out _ _ _ rfl rfl rfl
            rw [HST.out]; simp [recL, HS.out, h1, h2, h0]
        · gi_wp2
          refine rec_exit (r := none) (W := W) Q1.out Q2.out Q3.out (fun js => ?_) (KeepsFrom.refl _ _) HBB.out _ _ _ rfl rfl rfl
          rw [HST.out]; simp [recL, HS.out, h1, h0]
  case done =>
    rintro D' ys W hD rfl ⟨⟨outs, lf, v, hI⟩, hkp⟩ hK
    have hz := HZ.out
    have hrec : recL D n (List.range' at_ (D.sure.length - at_)) 0 [] = none := by have := hI.rec_ []; rw [List.append_nil] at this; rw [this]; rfl
    have HREC := Lib.hid hrec
    have q1 : Boxed W (w.heap.size + 1) 9 (.string ByteArray.empty) := (hkp.1.block _ (by omega)).trans B1.out
    have q2 : Boxed W (w.heap.size + 1 + 1) 3 (.int .i64 0) := (hkp.1.block _ (by omega)).trans B2.out
    have q3 : Boxed W (w.heap.size + 1 + 1 + 1) 3 (.int .i64 0) := (hkp.1.block _ (by omega)).trans B3.out
    have c1 := q1.cell
    have c2 := q2.cell
    have c3 := q3.cell
    have f1 := q1.frozen
    have f2 := q2.frozen
    have f3 := q3.frozen
    have hB : Below w.heap.size w W := Below.trans HW.out (hkp.1.mono (by omega))
    have Q1 := Lib.hid q1
    have Q2 := Lib.hid q2
    have Q3 := Lib.hid q3
    have HBB := Lib.hid hB
    have HKD := Lib.hid hK
    clear q1 q2 q3 hB hK hI hkp hrec
    gi_wp2
    have y1 : Boxed (((W.setCell ⟨w.heap.size + 1, 0, none⟩ (.string (⟨#[]⟩ : ByteArray))).setCell ⟨w.heap.size + 1 + 1, 0, none⟩ (.int .i64 0)).setCell ⟨w.heap.size + 1 + 1 + 1, 0, none⟩ (.int .i64 0)) (w.heap.size + 1) 9 (.string (⟨#[]⟩ : ByteArray)) := ((Q1.out.set _).other (by omega) _).other (by omega) _
    have y2 : Boxed (((W.setCell ⟨w.heap.size + 1, 0, none⟩ (.string (⟨#[]⟩ : ByteArray))).setCell ⟨w.heap.size + 1 + 1, 0, none⟩ (.int .i64 0)).setCell ⟨w.heap.size + 1 + 1 + 1, 0, none⟩ (.int .i64 0)) (w.heap.size + 1 + 1) 3 (.int .i64 0) := ((Q2.out.other (by omega) _).set _).other (by omega) _
    have y3 : Boxed (((W.setCell ⟨w.heap.size + 1, 0, none⟩ (.string (⟨#[]⟩ : ByteArray))).setCell ⟨w.heap.size + 1 + 1, 0, none⟩ (.int .i64 0)).setCell ⟨w.heap.size + 1 + 1 + 1, 0, none⟩ (.int .i64 0)) (w.heap.size + 1 + 1 + 1) 3 (.int .i64 0) := ((Q3.out.other (by omega) _).other (by omega) _).set _
    have y4 : (((W.setCell ⟨w.heap.size + 1, 0, none⟩ (.string (⟨#[]⟩ : ByteArray))).setCell ⟨w.heap.size + 1 + 1, 0, none⟩ (.int .i64 0)).setCell ⟨w.heap.size + 1 + 1 + 1, 0, none⟩ (.int .i64 0)).heap[D']? = some (.deferred (some [])) := (((KeepsOthers.setCell _ _ _).trans (KeepsOthers.setCell _ _ _)).trans (KeepsOthers.setCell _ _ _)).same D' _ HKD.out rfl
    have y5 : Below w.heap.size w (((W.setCell ⟨w.heap.size + 1, 0, none⟩ (.string (⟨#[]⟩ : ByteArray))).setCell ⟨w.heap.size + 1 + 1, 0, none⟩ (.int .i64 0)).setCell ⟨w.heap.size + 1 + 1 + 1, 0, none⟩ (.int .i64 0)) := ((HBB.out.setCell (p := ⟨w.heap.size + 1, 0, none⟩) (by simp) _).setCell (p := ⟨w.heap.size + 1 + 1, 0, none⟩) (by simp; omega) _).setCell (p := ⟨w.heap.size + 1 + 1 + 1, 0, none⟩) (by simp; omega) _
    clear c1 c2 c3 f1 f2 f3 Q1 Q2 Q3 HBB HKD
    generalize (((W.setCell ⟨w.heap.size + 1, 0, none⟩ (.string (⟨#[]⟩ : ByteArray))).setCell ⟨w.heap.size + 1 + 1, 0, none⟩ (.int .i64 0)).setCell ⟨w.heap.size + 1 + 1 + 1, 0, none⟩ (.int .i64 0)) = W3 at *
    refine ⟨by simp, .inl ⟨_, _, rfl, run_takeDeferred y4, ?_⟩⟩
    have hg := grownBy_putObj' W3 D' (.deferred none)
    have x1 : Boxed (W3.putObj D' (.deferred none)) (w.heap.size + 1) 9 (.string (⟨#[]⟩ : ByteArray)) := Boxed.kept (row := some D') y1 hg (by simp; omega)
    have x2 : Boxed (W3.putObj D' (.deferred none)) (w.heap.size + 1 + 1) 3 (.int .i64 0) := Boxed.kept (row := some D') y2 hg (by simp; omega)
    have x3 : Boxed (W3.putObj D' (.deferred none)) (w.heap.size + 1 + 1 + 1) 3 (.int .i64 0) := Boxed.kept (row := some D') y3 hg (by simp; omega)
    have c1 := x1.cell
    have c2 := x2.cell
    have c3 := x3.cell
    refine ⟨.tuple #[.string (⟨#[]⟩ : ByteArray), .int .i64 0, .int .i64 0], ?_, by rw [HREC.out]; rfl, y5.trans (belowK_b (w := w) (Nat.le_refl _) W3 D' _ _ (by omega) y4 rfl rfl)⟩
    simp [results, Tryd.f31, go_sem, c1, c2, c3]
  case stop =>
    rintro D' c pre W hD ⟨k, hk, rfl⟩ ⟨⟨rfl, r, hr, h1, h2, h3⟩, hB⟩ hK
    have hz := HZ.out
    have hfull : recL D n (List.range' at_ (D.sure.length - at_)) 0 [] = r := by
      have := hr (List.range' (at_ + k) (D.sure.length - at_ - k))
      rw [List.range'_append_1] at this
      rw [← this]; congr 2; omega
    have HFULL := Lib.hid hfull
    have HH1 := Lib.hid h1
    have HH2 := Lib.hid h2
    have HH3 := Lib.hid h3
    have HBB := Lib.hid hB
    have HKD := Lib.hid hK
    clear h1 h2 h3 hB hK hr hfull hk
    gi_wp2
    refine ⟨by simp, .inl ⟨_, _, rfl, run_takeDeferred HKD.out, ?_⟩⟩
    have hg := grownBy_putObj' W D' (.deferred none)
    have y1 : Boxed (W.putObj D' (.deferred none)) (w.heap.size + 1) 9 (.string ⟨(recV r).1.toArray⟩) := Boxed.kept (row := some D') HH1.out hg (by simp; omega)
    have y2 : Boxed (W.putObj D' (.deferred none)) (w.heap.size + 1 + 1) 3 (.int .i64 ((recV r).2.1 : Int)) := Boxed.kept (row := some D') HH2.out hg (by simp; omega)
    have y3 : Boxed (W.putObj D' (.deferred none)) (w.heap.size + 1 + 1 + 1) 3 (.int .i64 ((recV r).2.2 : Int)) := Boxed.kept (row := some D') HH3.out hg (by simp; omega)
    have c1 := y1.cell
    have c2 := y2.cell
    have c3 := y3.cell
    refine ⟨.tuple #[.string ⟨(recV r).1.toArray⟩, .int .i64 ((recV r).2.1 : Int), .int .i64 ((recV r).2.2 : Int)], ?_, by rw [HFULL.out], HBB.out.trans (belowK_b (w := w) (Nat.le_refl _) W D' _ _ (by omega) HKD.out rfl rfl)⟩
    simp [results, Tryd.f31, go_sem, c1, c2, c3]
end Go.Proofs.YteljihpheffjnaaDoor.Tape
/- tape.ready: may a drum be read? -/
namespace Go.Proofs.YteljihpheffjnaaDoor.Tape
open Go.RowKit Go.Proofs.YteljihpheffjnaaDoor.Ord Go.Proofs.YteljihpheffjnaaDoorW.PrintWords Go.Proofs.YteljihpheffjnaaDoor.Base Go.Proofs.YteljihpheffjnaaDoor.Drum
open Go.Shelf
set_option linter.unusedVariables false
set_option linter.unusedSimpArgs false
attribute [local irreducible] OpGives

theorem ready_nil (w : World) : Calls Tryd.prog 30 #[.pointer none] w fun e w' => e = .returned (.int .i64 1) ∧ w' = w := by
  have hs := size_nil w
  go_enter Tryd.func30, Tryd.ntmps30
  go_wp2_with fail
  refine hs.mono ?_
  rintro e w' ⟨rfl, rfl⟩
  go_wp2
  go_ret
  exact ⟨rfl, rfl⟩
theorem ready_at (b sb cap : Nat) (lv : Value) (D : DS) (w : World) (h : DrumAt w b sb cap lv D) :
    Calls Tryd.prog 30 #[.pointer (some ⟨b, 0, none⟩)] w fun e w' => e = .returned (.int .i64 (if D.down then 9 else 0)) ∧ w' = w := by
  have hs := size_of b _ D.sure.length cap w h.cell.cells.1 h.pos
  have hd := down_of b _ D.sure.length cap D.down w h.cell.cells.1 h.cell.cells.2.2.2.2 h.pos
  have hp := h.pos
  have HD := Lib.hid hd
  clear hd h
  go_enter Tryd.func30, Tryd.ntmps30
  go_wp2_with fail
  refine hs.mono ?_
  rintro e w' ⟨rfl, rfl⟩
  cases hdn : D.down with
  | true =>
    rw [hdn] at HD
    go_wp2_with fail
    refine HD.out.mono ?_
    rintro e w' ⟨rfl, rfl⟩
    go_wp2
    go_ret
    exact ⟨rfl, rfl⟩
  | false =>
    rw [hdn] at HD
    go_wp2_with fail
    refine HD.out.mono ?_
    rintro e w' ⟨rfl, rfl⟩
    go_wp2
    all_goals (go_ret; exact ⟨rfl, rfl⟩)
end Go.Proofs.YteljihpheffjnaaDoor.Tape
/- tape.Scan: the records, in plain terms. -/
namespace Go.Proofs.YteljihpheffjnaaDoor.Tape
open Go.RowKit Go.Proofs.YteljihpheffjnaaDoor.Ord Go.Proofs.YteljihpheffjnaaDoorW.PrintWords Go.Proofs.YteljihpheffjnaaDoor.Base Go.Proofs.YteljihpheffjnaaDoor.Drum
set_option linter.unusedVariables false
set_option linter.unusedSimpArgs false

/-- The record n from a sector on. -/
def DS.rec (D : DS) (at_ n : Nat) : Option (List (List UInt8) × Nat) := recL D n (List.range' at_ (D.sure.length - at_)) 0 []
/-- A record that is whole has as many sectors as there are behind it, at most; and one at least. -/
theorem recL_len {D : DS} {n : Nat} : ∀ (js : List Nat) (life : Nat) (out o : List (List UInt8)) (l : Nat), recL D n js life out = some (o, l) → o.length ≤ out.length + js.length ∧ out.length < o.length
  | [], _, _, _, _, h => by cases h
  | j :: js, life, out, o, l, h => by
    unfold recL at h
    cases hs : DS.sec D j with
    | none => rw [hs] at h; cases h
    | some x =>
      rw [hs] at h
      simp only [] at h
      by_cases hc : x.record = n ∧ x.part = out.length ∧ x.life = (if out.length = 0 then x.life else life)
      · rw [if_pos hc] at h
        by_cases hl : x.last = true
        · rw [if_pos hl] at h
          injection h with h
          injection h with h1 h2
          subst h1
          simp only [List.length_append, List.length_cons, List.length_nil]
          omega
        · rw [if_neg hl] at h
          have := recL_len js x.life (out ++ [x.s]) o l h
          simp only [List.length_append, List.length_cons, List.length_nil] at this ⊢
          omega
      · rw [if_neg hc] at h; cases h
theorem rec_len {D : DS} {at_ n l : Nat} {o : List (List UInt8)} (h : DS.rec D at_ n = some (o, l)) : at_ + o.length ≤ max at_ D.sure.length ∧ 0 < o.length := by
  have := recL_len _ _ _ _ _ h
  rw [List.length_range', List.length_nil] at this
  omega
/-- The records from a sector on: texts, and the sector behind them. -/
def DS.scanN (D : DS) : Nat → Nat → Nat → List (List UInt8) → List (List UInt8) × Nat
  | 0, at_, _, out => (out, at_)
  | k + 1, at_, was, out => match DS.rec D at_ (out.length + 1) with
    | none => (out, at_)
    | some (o, life) => if life < was then (out, at_) else DS.scanN D k (at_ + o.length) life (out ++ [o.flatten])
def DS.scan (D : DS) : List (List UInt8) × Nat := DS.scanN D D.sure.length 0 1 []
end Go.Proofs.YteljihpheffjnaaDoor.Tape
/- tape.Scan and tape.Open of no drum. -/
namespace Go.Proofs.YteljihpheffjnaaDoor.Tape
open Go.RowKit Go.Proofs.YteljihpheffjnaaDoor.Ord Go.Proofs.YteljihpheffjnaaDoorW.PrintWords Go.Proofs.YteljihpheffjnaaDoor.Base Go.Proofs.YteljihpheffjnaaDoor.Drum
set_option linter.unusedVariables false
set_option linter.unusedSimpArgs false
attribute [local irreducible] OpGives

theorem scan_nil (w : World) : Calls Tryd.prog 9 #[.pointer none] w fun e w' => e = .returned (.tuple #[.slice none 0 0, .int .i64 0, .int .i64 0, .int .i64 1]) ∧ w' = w := by
  have hs := ready_nil w
  go_enter Tryd.func9, Tryd.ntmps9
  go_wp2_with fail
  refine hs.mono ?_
  rintro e w' ⟨rfl, rfl⟩
  go_wp2
  refine bodyPost_ret (v := .tuple #[.slice none 0 0, .int .i64 0, .int .i64 0, .int .i64 1]) (by simp [results, Tryd.f9, go_sem]) rfl ?_
  exact ⟨rfl, rfl⟩
theorem open_nil (w : World) : Calls Tryd.prog 8 #[.pointer none] w fun e w' => e = .returned (.tuple #[.pointer none, .slice none 0 0, .int .i64 1]) ∧ w' = w := by
  have hs := scan_nil w
  go_enter Tryd.func8, Tryd.ntmps8
  go_wp2_with fail
  refine hs.mono ?_
  rintro e w' ⟨rfl, rfl⟩
  go_wp2
  refine bodyPost_ret (v := .tuple #[.pointer none, .slice none 0 0, .int .i64 1]) (by simp [results, Tryd.f8, go_sem]) rfl ?_
  exact ⟨rfl, rfl⟩
end Go.Proofs.YteljihpheffjnaaDoor.Tape
/- A tape that nothing made. -/
namespace Go.Proofs.YteljihpheffjnaaDoor.Tape
open Go.RowKit Go.Proofs.YteljihpheffjnaaDoor.Ord Go.Proofs.YteljihpheffjnaaDoorW.PrintWords Go.Proofs.YteljihpheffjnaaDoor.Base Go.Proofs.YteljihpheffjnaaDoor.Drum
set_option linter.unusedVariables false
set_option linter.unusedSimpArgs false
attribute [local irreducible] OpGives

/-- A pointer to no tape, or to one that nothing made. -/
def NoTape (w : World) (p : Value) : Prop := p = .pointer none ∨ ∃ b, p = .pointer (some ⟨b, 0, none⟩) ∧ w.cell? ⟨b, 0, none⟩ = some (.pointer none)
theorem tmade_no (p : Value) (w : World) (h : NoTape w p) : Calls Tryd.prog 37 #[p] w fun e w' => e = .returned (.bool false) ∧ w' = w := by
  rcases h with rfl | ⟨b, rfl, hc⟩
  · go_enter Tryd.func37, Tryd.ntmps37
    go_wp2
    go_ret
    exact ⟨rfl, rfl⟩
  · go_enter Tryd.func37, Tryd.ntmps37
    go_wp2
    go_ret
    exact ⟨rfl, rfl⟩
theorem tstate_no (p : Value) (w : World) (h : NoTape w p) : Calls Tryd.prog 33 #[p] w fun e w' => e = .returned (.int .i64 1) ∧ w' = w := by
  have hs := tmade_no p w h
  rcases h with rfl | ⟨b, rfl, hc⟩
  · go_enter Tryd.func33, Tryd.ntmps33
    go_wp2_with fail
    refine hs.mono ?_
    rintro e w' ⟨rfl, rfl⟩
    go_wp2
    go_ret
    exact ⟨rfl, rfl⟩
  · go_enter Tryd.func33, Tryd.ntmps33
    go_wp2_with fail
    refine hs.mono ?_
    rintro e w' ⟨rfl, rfl⟩
    go_wp2
    go_ret
    exact ⟨rfl, rfl⟩
theorem tlen_no (p : Value) (w : World) (h : NoTape w p) : Calls Tryd.prog 12 #[p] w fun e w' => e = .returned (.int .i64 0) ∧ w' = w := by
  have hs := tmade_no p w h
  rcases h with rfl | ⟨b, rfl, hc⟩
  · go_enter Tryd.func12, Tryd.ntmps12
    go_wp2_with fail
    refine hs.mono ?_
    rintro e w' ⟨rfl, rfl⟩
    go_wp2
    go_ret
    exact ⟨rfl, rfl⟩
  · go_enter Tryd.func12, Tryd.ntmps12
    go_wp2_with fail
    refine hs.mono ?_
    rintro e w' ⟨rfl, rfl⟩
    go_wp2
    go_ret
    exact ⟨rfl, rfl⟩
theorem tlife_no (p : Value) (w : World) (h : NoTape w p) : Calls Tryd.prog 13 #[p] w fun e w' => e = .returned (.int .i64 0) ∧ w' = w := by
  have hs := tmade_no p w h
  rcases h with rfl | ⟨b, rfl, hc⟩
  · go_enter Tryd.func13, Tryd.ntmps13
    go_wp2_with fail
    refine hs.mono ?_
    rintro e w' ⟨rfl, rfl⟩
    go_wp2
    go_ret
    exact ⟨rfl, rfl⟩
  · go_enter Tryd.func13, Tryd.ntmps13
    go_wp2_with fail
    refine hs.mono ?_
    rintro e w' ⟨rfl, rfl⟩
    go_wp2
    go_ret
    exact ⟨rfl, rfl⟩
theorem troom_no (p : Value) (w : World) (h : NoTape w p) : Calls Tryd.prog 14 #[p] w fun e w' => e = .returned (.int .i64 0) ∧ w' = w := by
  have hs := tmade_no p w h
  rcases h with rfl | ⟨b, rfl, hc⟩
  · go_enter Tryd.func14, Tryd.ntmps14
    go_wp2_with fail
    refine hs.mono ?_
    rintro e w' ⟨rfl, rfl⟩
    go_wp2
    go_ret
    exact ⟨rfl, rfl⟩
  · go_enter Tryd.func14, Tryd.ntmps14
    go_wp2_with fail
    refine hs.mono ?_
    rintro e w' ⟨rfl, rfl⟩
    go_wp2
    go_ret
    exact ⟨rfl, rfl⟩
theorem tsettle_no (p : Value) (w : World) (h : NoTape w p) : Calls Tryd.prog 11 #[p] w fun e w' => e = .returned (.int .i64 1) ∧ w' = w := by
  have hs := tstate_no p w h
  rcases h with rfl | ⟨b, rfl, hc⟩
  · go_enter Tryd.func11, Tryd.ntmps11
    go_wp2_with fail
    refine hs.mono ?_
    rintro e w' ⟨rfl, rfl⟩
    go_wp2
    go_ret
    exact ⟨rfl, rfl⟩
  · go_enter Tryd.func11, Tryd.ntmps11
    go_wp2_with fail
    refine hs.mono ?_
    rintro e w' ⟨rfl, rfl⟩
    go_wp2
    go_ret
    exact ⟨rfl, rfl⟩
theorem tappend_no (p : Value) (w : World) (h : NoTape w p) (s : ByteArray) : Calls Tryd.prog 10 #[p, .string s] w fun e w' => e = .returned (.int .i64 1) ∧ w' = w := by
  have hs := tstate_no p w h
  rcases h with rfl | ⟨b, rfl, hc⟩
  · go_enter Tryd.func10, Tryd.ntmps10
    go_wp2_with fail
    refine hs.mono ?_
    rintro e w' ⟨rfl, rfl⟩
    go_wp2
    go_ret
    exact ⟨rfl, rfl⟩
  · go_enter Tryd.func10, Tryd.ntmps10
    go_wp2_with fail
    refine hs.mono ?_
    rintro e w' ⟨rfl, rfl⟩
    go_wp2
    go_ret
    exact ⟨rfl, rfl⟩
end Go.Proofs.YteljihpheffjnaaDoor.Tape
/- tape.Scan, walked. -/
namespace Go.Proofs.YteljihpheffjnaaDoor.Tape
open Go.RowKit Go.Proofs.YteljihpheffjnaaDoor.Ord Go.Proofs.YteljihpheffjnaaDoorW.PrintWords Go.Proofs.YteljihpheffjnaaDoor.Base Go.Proofs.YteljihpheffjnaaDoor.Drum
set_option linter.unusedVariables false
set_option linter.unusedSimpArgs false
attribute [local irreducible] OpGives

theorem scanN_none {D : DS} {at_ was : Nat} {out : List (List UInt8)} (h : DS.rec D at_ (out.length + 1) = none) : ∀ k, DS.scanN D k at_ was out = (out, at_)
  | 0 => rfl
  | k + 1 => by rw [DS.scanN, h]
theorem scanN_lt {D : DS} {at_ was life : Nat} {out o : List (List UInt8)} (h : DS.rec D at_ (out.length + 1) = some (o, life)) (hl : life < was) : ∀ k, DS.scanN D k at_ was out = (out, at_)
  | 0 => rfl
  | k + 1 => by rw [DS.scanN, h]; simp only [hl, if_true]
theorem scanN_more {D : DS} {at_ was life : Nat} {out o : List (List UInt8)} (h : DS.rec D at_ (out.length + 1) = some (o, life)) (hl : ¬ life < was) (k : Nat) : DS.scanN D (k + 1) at_ was out = DS.scanN D k (at_ + o.length) life (out ++ [o.flatten]) := by
  rw [DS.scanN, h]; simp only [hl, if_false]
theorem recV_some (o : List (List UInt8)) (l : Nat) : recV (some (o, l)) = (o.flatten, l, o.length) := rfl
theorem recV_none : recV none = ([], 0, 0) := rfl
/-- While Scan goes on. -/
def ScanR (D : DS) (w : World) (N : Nat) (v a q : Value) (wr : World) : Prop :=
  ∃ (outs : List (List UInt8)) (at_ was k : Nat), a = .int .i64 (at_ : Int) ∧ q = .int .i64 (was : Int) ∧ wr.ownsRow w.heap.size 9 1 v outs.length (strs outs) ∧ at_ ≤ N ∧ N ≤ at_ + k ∧ outs.length ≤ at_ ∧ DS.scan D = DS.scanN D k at_ was outs ∧ NewMem w wr

set_option maxRecDepth 100000 in
set_option maxHeartbeats 8000000 in
theorem scan_at (b sb cap : Nat) (lv : Value) (D : DS) (w : World) (h : DrumAt w b sb cap lv D) (hd : D.down = false) (hn : D.loose.length ≤ 1000000) :
    Calls Tryd.prog 9 #[.pointer (some ⟨b, 0, none⟩)] w fun e w' => ∃ v, e = .returned (.tuple #[v, .int .i64 ((DS.scan D).2 : Int), .int .i64 (DS.great D : Int), .int .i64 0]) ∧ w'.ownsRow w.heap.size 9 1 v (DS.scan D).1.length (strs (DS.scan D).1) ∧ NewMem w w' := by
  have hr := ready_at b sb cap lv D w h
  rw [hd, if_neg (by decide)] at hr
  have HRD := Lib.hid hr
  clear hr
  obtain ⟨N, hN⟩ : ∃ N, N = D.sure.length := ⟨_, rfl⟩
  have hfew := h.few
  have hrl : ∀ (at_ n : Nat) (o : List (List UInt8)) (l : Nat), DS.rec D at_ n = some (o, l) → at_ ≤ N → at_ + o.length ≤ N ∧ 0 < o.length := fun at_ n o l hx ha => by
    have := rec_len hx; omega
  have hrec : ∀ (W : World) (at_ n : Nat), NewMem w W → at_ ≤ N → Calls Tryd.prog 31 #[.pointer (some ⟨b, 0, none⟩), .int .i64 (at_ : Int), .int .i64 (n : Int)] W fun e w' => e = .returned (.tuple #[.string ⟨(recV (DS.rec D at_ n)).1.toArray⟩, .int .i64 ((recV (DS.rec D at_ n)).2.1 : Int), .int .i64 ((recV (DS.rec D at_ n)).2.2 : Int)]) ∧ NewMem W w' := fun W at_ n hW ha => by
    unfold DS.rec
    exact record_at b sb cap lv D at_ n W (h.kept (F := fun _ => False) (Mod.of_below hW) (fun _ _ => id)) hd hn (by omega)
  have hgr : ∀ W, NewMem w W → Calls Tryd.prog 32 #[.pointer (some ⟨b, 0, none⟩)] W fun e w' => e = .returned (.int .i64 (DS.great D : Int)) ∧ NewMem W w' := fun W hW =>
    greatest_at b sb cap lv D W (h.kept (F := fun _ => False) (Mod.of_below hW) (fun _ _ => id)) hd hn
  have hstart : ScanR D w N (.slice none 0 0) (.int .i64 0) (.int .i64 1) w := ⟨[], 0, 1, D.sure.length, rfl, rfl, World.ownsRow_nil _ _ _ _, by omega, by omega, by simp, rfl, NewMem.refl _⟩
  have HST := Lib.hid hstart
  have HREC := Lib.hid hrec
  have HRL := Lib.hid hrl
  have HGR := Lib.hid hgr
  have hfew' : N ≤ 4096 := by omega
  have HF := Lib.hid hfew'
  clear hrec hgr hN h hd hn hfew hstart hrl hfew'
  go_enter Tryd.func9, Tryd.ntmps9
  go_wp2_with fail
  refine HRD.out.mono ?_
  clear HRD
  rintro e w' ⟨rfl, rfl⟩
  go_wp2_with fail
  go_loopw [7, 8, 9] (fun v a q wr => ScanR D w' N v a q wr) (fun _ a _ _ => N - (intOf a).toNat)
  case atStart => exact HST.out
  case round =>
    obtain ⟨outs, at_, was, k, rfl, rfl, hown, hle, hfuel, hout, hscan, hbel⟩ := hrel
    have hi : (Tryd.prog.info? 9).map (fun i => (i.zero, i.size, i.bytes)) = some (some (Value.string ⟨#[]⟩), 1, 16) := by kernel_rfl
    obtain ⟨i0, hi0, hz0, hz1, hz2⟩ := info_parts hi
    have hlen : outs.length ≤ 4096 := by have := HF.out; omega
    obtain ⟨sa, scp, hv⟩ : ∃ a cp, u7 = .slice a outs.length cp := by
      rcases hown.2 with ⟨e, h0⟩ | ⟨g, cp, cur, e, _⟩
      · exact ⟨none, 0, by rw [e, h0]⟩
      · exact ⟨_, cp, e⟩
    subst hv
    have hadd : wrap64 ((outs.length : Int) + 1) = ((outs.length + 1 : Nat) : Int) := w_one (by omega)
    have hr := HREC.out wr at_ (outs.length + 1) hbel hle
    rw [show ((outs.length + 1 : Nat) : Int) = (outs.length : Int) + 1 by omega] at hr
    have HOWN := Lib.hid hown
    have HSC := Lib.hid hscan
    have HB := Lib.hid hbel
    have HLE := Lib.hid hle
    have HFU := Lib.hid hfuel
    have HOU := Lib.hid hout
    -- the ending: what was gathered is told
    have hend : ∀ W1 W2, NewMem wr W1 → NewMem W1 W2 → DS.scan D = (outs, at_) → w'.ownsRow w'.heap.size 9 1 (.slice none 0 0) 0 [] → ∃ v, Ending.returned (.tuple #[.slice sa outs.length scp, .int .i64 (at_ : Int), .int .i64 (DS.great D : Int), .int .i64 0]) = .returned (.tuple #[v, .int .i64 ((DS.scan D).2 : Int), .int .i64 (DS.great D : Int), .int .i64 0]) ∧ W2.ownsRow w'.heap.size 9 1 v (DS.scan D).1.length (strs (DS.scan D).1) ∧ NewMem w' W2 := fun W1 W2 h1 h2 he _ => by
      rw [he]
      have h12 : NewMem wr W2 := NewMem.trans h1 h2
      exact ⟨_, rfl, ownsRow_mod HOWN.out (Mod.of_below (F := fun _ => False) h12) (fun _ _ => id), NewMem.trans HB.out h12⟩
    have HEND := Lib.hid hend
    clear hown hscan hbel hle hfuel hout hend hadd
    cases hx : DS.rec D at_ (outs.length + 1) with
    | none =>
      rw [hx, recV_none] at hr
      have hdone : DS.scan D = (outs, at_) := HSC.out.trans (scanN_none hx k)
      have HD := Lib.hid hdone
      have HR := Lib.hid hr
      clear hx hr hdone
      go_wp2_with fail
      refine HR.out.mono ?_
      rintro e W1 ⟨rfl, hn1⟩
      have HN1 := Lib.hid hn1
      have hg := HGR.out W1 (NewMem.trans HB.out hn1)
      have HG := Lib.hid hg
      clear hg hn1
      go_wp2_with fail
      refine HG.out.mono ?_
      rintro e W2 ⟨rfl, hn2⟩
      have HN2 := Lib.hid hn2
      clear hn2
      go_wp2_with fail
      refine bodyPost_ret (v := .tuple #[.slice sa outs.length scp, .int .i64 (at_ : Int), .int .i64 (DS.great D : Int), .int .i64 0]) (by simp [results, Tryd.f9, go_sem]) rfl ?_
      exact HEND.out W1 W2 HN1.out HN2.out HD.out (World.ownsRow_nil _ _ _ _)
    | some y =>
      obtain ⟨o, life⟩ := y
      rw [hx, recV_some] at hr
      have hol := HRL.out _ _ _ _ hx HLE.out
      have hne : ((o.length : Int) == 0) = false := beq_eq_false_iff_ne.2 (by omega)
      by_cases hlt : life < was
      · have hdone : DS.scan D = (outs, at_) := HSC.out.trans (scanN_lt hx hlt k)
        have HD := Lib.hid hdone
        have HR := Lib.hid hr
        have hlti : decide (life < was) = true := decide_eq_true hlt
        clear hx hr hdone hol
        go_wp2_with fail
        refine HR.out.mono ?_
        rintro e W1 ⟨rfl, hn1⟩
        have HN1 := Lib.hid hn1
        have hg := HGR.out W1 (NewMem.trans HB.out hn1)
        have HG := Lib.hid hg
        clear hg hn1
        go_wp2_with fail
        refine HG.out.mono ?_
        rintro e W2 ⟨rfl, hn2⟩
        have HN2 := Lib.hid hn2
        clear hn2
        go_wp2_with fail
        refine bodyPost_ret (v := .tuple #[.slice sa outs.length scp, .int .i64 (at_ : Int), .int .i64 (DS.great D : Int), .int .i64 0]) (by simp [results, Tryd.f9, go_sem]) rfl ?_
        exact HEND.out W1 W2 HN1.out HN2.out HD.out (World.ownsRow_nil _ _ _ _)
      · have hk : ∃ k', k = k' + 1 := ⟨k - 1, by have := HFU.out; omega⟩
        obtain ⟨k', rfl⟩ := hk
        have hdone : DS.scan D = _ := HSC.out.trans (scanN_more hx hlt k')
        have HD := Lib.hid hdone
        have HR := Lib.hid hr
        have hlti : decide (life < was) = false := decide_eq_false hlt
        have hadd : wrap64 ((at_ : Int) + (o.length : Int)) = ((at_ + o.length : Nat) : Int) := w_add (by have := HF.out; omega)
        have HOL := Lib.hid hol
        clear hx hr hdone hol hlt
        go_wp2_with fail
        refine HR.out.mono ?_
        rintro e W1 ⟨rfl, hn1⟩
        have hsz1 := hn1.size
        have hszr := HB.out.size
        have hown1 : W1.ownsRow w'.heap.size 9 1 (.slice sa outs.length scp) outs.length (strs outs) := ownsRow_mod HOWN.out (Mod.of_below (F := fun _ => False) hn1) (fun _ _ => id)
        have HB1 := Lib.hid (NewMem.trans HB.out hn1)
        clear hn1
        go_wp2_with (at_builtin; refine wpList_append_own _ rfl _ _ 28 rfl w'.heap.size 9 i0 (.string ⟨#[]⟩) 1 16 Tryd.underlying28 hi0 hz0 hz1 hz2 rfl (by decide) _ _ _ rfl (hown1.alloc _) ⟨W1.heap.size, 0, none⟩ 1 1 [.string ⟨o.flatten.toArray⟩] rfl rfl ?c1 ?c2 ?c3 ?c4 ?c5 ?_)
        case c1 => exact World.news_of_block (by simpa using heap_alloc_last W1 (.cells #[.string ⟨o.flatten.toArray⟩] 9))
        case c2 => exact fun u hu => by rw [List.mem_singleton.1 hu]; rfl
        case c3 => unfold maxLen; omega
        case c4 => omega
        case c5 => rw [World.size_alloc]; omega
        intro v' W2 hown' hgrow _
        have hb2 : Below w'.heap.size w' W2 := ((show Below w'.heap.size w' W1 from HB1.out).alloc (by omega) _).grown hgrow (by simp; omega) (fun j hj => (hown1.lt j hj).1)
        have HB2 := Lib.hid hb2
        have HOW := Lib.hid hown'
        clear hgrow hb2 hown1 hown'
        go_wp2_with fail
        go_roundw
        case rel =>
          refine ⟨outs ++ [o.flatten], at_ + o.length, life, k', by go_num, rfl, ?_, HOL.out.1, by have := HFU.out; have := HOL.out; omega, ?_, HD.out, HB2.out⟩
          · have := HOW.out
            rw [strs_snoc, List.length_append]
            exact this
          · rw [List.length_append, List.length_singleton]; have := HOU.out; have := HOL.out; omega
        case measure =>
          have hm : N - (at_ + o.length) < N - at_ := by have := HOL.out; omega
          rw [hadd]
          simp only [intOf, Int.toNat_natCast]
          exact hm
end Go.Proofs.YteljihpheffjnaaDoor.Tape
