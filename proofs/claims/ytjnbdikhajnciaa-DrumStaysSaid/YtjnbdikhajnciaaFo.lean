/- What DrumStays keeps in memory: the drum, six texts, six rows of texts. -/
import Derived.Test.YtjnbdikhajnciaaFn
namespace Go.Proofs.Ytjnbdikhajnciaa.Drum
open Go.RowKit Go.Proofs.Ytjnbdikhajnciaa.Ord Go.Proofs.YtjnbdikhajnciaaW.PrintWords Go.Proofs.Ytjnbdikhajnciaa.Base
set_option linter.unusedVariables false
set_option linter.unusedSimpArgs false

def rowsT (vs : List Value) (rs : List (List ByteArray)) : List Thing := List.zipWith rowT vs rs
/-- The drum, the block of six slices, the block of six texts, the rows. -/
def staysL (td : Thing) (wb sb : Nat) (vs : List Value) (ss : List ByteArray) (rs : List (List ByteArray)) : List Thing :=
  td :: blockT wb vs.toArray 55 :: blockT sb (strCells ss).toArray 54 :: rowsT vs rs
/-- A drum on which the power is on, with no fuse. -/
structure PD (D : DS) (S L) : Prop where
  sure : D.sure = S
  loose : D.loose = L
  armed : D.armed = false
  down : D.down = false
theorem PD.crash {D : DS} (zs : List Int) : PD (D.crash zs) (keepN (fun k => zs.contains (k : Int)) D.loose D.sure D.loose.length) [] := ⟨rfl, rfl, rfl, rfl⟩
theorem PD.write {D : DS} {S L} (h : PD D S L) {q : Nat} {s : List UInt8} (hs : s.length = 64) (hq : q < S.length) : (D.write (q : Int) s).1 = 0 ∧ PD (D.write (q : Int) s).2 S (L ++ [(q, s)]) := by
  have hw := write_plain D (q : Int) s h.armed h.down hs (by omega) (by rw [h.sure]; omega)
  rw [hw]
  exact ⟨rfl, ⟨h.sure, by simp [h.loose], h.armed, h.down⟩⟩
theorem PD.write_no {D : DS} {S L} (h : PD D S L) {i : Int} {s : List UInt8} (hi : i < 0 ∨ (S.length : Int) ≤ i) : D.write i s = (2, D) := by
  unfold DS.write
  rw [if_pos]
  rw [h.sure]
  rcases hi with h | h
  · exact .inl h
  · exact .inr (.inl h)
theorem PD.settle {D : DS} {S L} (h : PD D S L) : D.settle.1 = 0 ∧ PD D.settle.2 (keepN (fun _ => true) L S L.length) [] := by
  have hb : D.burn.1 = 0 := by unfold DS.burn burns; rw [h.armed, h.down]; rfl
  unfold DS.settle
  rw [if_pos hb]
  exact ⟨rfl, ⟨by simp only [h.loose, h.sure, show D.burn.2.sure = D.sure from rfl], rfl, h.armed, by unfold DS.burn burns; rw [h.armed, h.down]; rfl⟩⟩
theorem PD.read {D : DS} {S} (h : PD D S []) {i : Nat} (hi : i < S.length) : D.read (i : Int) = (S.getD i [], 0) := by
  unfold DS.read
  rw [h.down, if_neg (by simp), h.sure, if_pos (by omega)]
  unfold DS.shows
  rw [h.loose, h.sure]; simp
theorem PD.text {D : DS} {S L} (h : PD D S L) {i : Nat} (hi : i < S.length) : D.sureText (i : Int) = S.getD i [] := by
  unfold DS.sureText
  rw [h.sure, if_pos (by omega)]; simp
def ssAt (S : List (List UInt8)) (k : Nat) : List ByteArray := (S.take k).map str ++ List.replicate (6 - k) ByteArray.empty
theorem ssAt_succ (S : List (List UInt8)) (h : S.length = 6) (k : Nat) (hk : k < 6) : (ssAt S k).set k (str (S.getD k [])) = ssAt S (k + 1) := by
  match S, h with
  | [a, b, c, d, e, f], _ =>
    match k, hk with
    | 0, _ => rfl
    | 1, _ => rfl
    | 2, _ => rfl
    | 3, _ => rfl
    | 4, _ => rfl
    | 5, _ => rfl
theorem ssAt_end (S : List (List UInt8)) (h : S.length = 6) : ssAt S 6 = S.map str := by unfold ssAt; rw [List.take_of_length_le (by omega)]; simp
theorem ssAt_len (S : List (List UInt8)) (h : S.length = 6) (k : Nat) (hk : k ≤ 6) : (ssAt S k).length = 6 := by unfold ssAt; simp; omega
def rsOf (L : List (Nat × List UInt8)) : List (List ByteArray) := (List.range 6).map fun i => (wroteOf L i).map str
theorem rsOf_len (L) : (rsOf L).length = 6 := by simp [rsOf]
theorem rsOf_at (L) (q : Nat) (hq : q < 6) : (rsOf L)[q]? = some ((wroteOf L q).map str) := by simp [rsOf, List.getElem?_range, hq]
theorem rsOf_snoc (L : List (Nat × List UInt8)) (q : Nat) (x : List UInt8) (hq : q < 6) : (rsOf L).set q ((wroteOf L q).map str ++ [str x]) = rsOf (L ++ [(q, x)]) := by
  apply List.ext_getElem?
  intro i
  rw [List.getElem?_set, rsOf_len]
  by_cases h : q = i
  · subst h
    rw [if_pos rfl, if_pos hq, rsOf_at _ _ hq, wroteOf_snoc, if_pos rfl]; simp
  · rw [if_neg h]
    rcases Nat.lt_or_ge i 6 with hi | hi
    · rw [rsOf_at _ _ hi, rsOf_at _ _ hi, wroteOf_snoc, if_neg h]
    · rw [List.getElem?_eq_none (by rw [rsOf_len]; exact hi), List.getElem?_eq_none (by rw [rsOf_len]; exact hi)]
theorem rowsT_set (vs : List Value) (rs : List (List ByteArray)) (q : Nat) (v : Value) (r : List ByteArray) : (rowsT vs rs).set q (rowT v r) = rowsT (vs.set q v) (rs.set q r) := by
  unfold rowsT
  induction vs generalizing rs q with
  | nil => cases q <;> simp
  | cons a vs ih =>
    cases rs with
    | nil => cases q <;> simp
    | cons b rs =>
      cases q with
      | zero => simp
      | succ q => simp only [List.zipWith_cons_cons, List.set_cons_succ]; rw [ih]
theorem rowsT_at {vs : List Value} {rs : List (List ByteArray)} {q : Nat} {v : Value} {r : List ByteArray} (hv : vs[q]? = some v) (hr : rs[q]? = some r) : (rowsT vs rs)[q]? = some (rowT v r) := by
  unfold rowsT; rw [List.getElem?_zipWith, hv, hr]
section
variable {B : Nat} {w W : World} {td : Thing} {wb sb : Nat} {vs : List Value} {ss : List ByteArray} {rs : List (List ByteArray)}
theorem stays_wb (h : Sep B w W (staysL td wb sb vs ss rs)) : W.heap[wb]? = some (.cells vs.toArray 55 (0, 0)) := (h.all (blockT wb vs.toArray 55) (by simp [staysL])).1
theorem stays_sb (h : Sep B w W (staysL td wb sb vs ss rs)) : W.heap[sb]? = some (.cells (strCells ss).toArray 54 (0, 0)) := (h.all (blockT sb (strCells ss).toArray 54) (by simp [staysL])).1
theorem stays_row (h : Sep B w W (staysL td wb sb vs ss rs)) {q : Nat} {v : Value} {r : List ByteArray} (hv : vs[q]? = some v) (hr : rs[q]? = some r) : W.ownsRow 0 9 1 v r.length (strCells r) ∧ ∀ k, v.ownBlock = some k → B ≤ k :=
  h.all (rowT v r) (by unfold staysL; exact List.mem_cons_of_mem _ (List.mem_cons_of_mem _ (List.mem_cons_of_mem _ (List.mem_of_getElem? (rowsT_at hv hr)))))
theorem stays_text (h : Sep B w W (staysL td wb sb vs ss rs)) {i : Nat} {s : ByteArray} (hs : ss[i]? = some s) : W.cell? ⟨sb, i, none⟩ = some (.string s) := by
  rw [cell_of_row _ _ _ _ _ _ (stays_sb h)]; simp [strCells, hs]
theorem stays_slice (h : Sep B w W (staysL td wb sb vs ss rs)) {i : Nat} {v : Value} (hv : vs[i]? = some v) : W.cell? ⟨wb, i, none⟩ = some v := by
  rw [cell_of_row _ _ _ _ _ _ (stays_wb h)]; simpa using hv
/-- A text of the six turned. -/
theorem stays_put (h : Sep B w W (staysL td wb sb vs ss rs)) (i : Nat) (s : ByteArray) : Sep B w (W.setCell ⟨sb, i, none⟩ (.string s)) (staysL td wb sb vs (ss.set i s) rs) := by
  have h1 := h.turnAt (i := 2) (t := blockT sb (strCells ss).toArray 54) (t' := blockT sb (strCells (ss.set i s)).toArray 54) (W' := W.setCell ⟨sb, i, none⟩ (.string s)) rfl (Mod.setCell (F := fun k => k = sb) _ _ _ rfl) (by
    have := heap_setCell_same W sb i _ _ (.string s) (stays_sb h)
    show (W.setCell ⟨sb, i, none⟩ (.string s)).heap[sb]? = some (.cells (strCells (ss.set i s)).toArray 54 (0, 0))
    rw [this]
    simp [strCells, List.map_set]) (fun k hk => .inl hk)
  exact h1
/-- A slice of the six turned. -/
theorem stays_slot (h : Sep B w W (staysL td wb sb vs ss rs)) (i : Nat) (v : Value) (l : List Thing) (hl : l = td :: blockT wb (vs.set i v).toArray 55 :: blockT sb (strCells ss).toArray 54 :: rowsT vs rs) : Sep B w (W.setCell ⟨wb, i, none⟩ v) l := by
  have h1 := h.turnAt (i := 1) (t := blockT wb vs.toArray 55) (t' := blockT wb (vs.set i v).toArray 55) (W' := W.setCell ⟨wb, i, none⟩ v) rfl (Mod.setCell (F := fun k => k = wb) _ _ _ rfl) (by
    have := heap_setCell_same W wb i _ _ v (stays_wb h)
    show (W.setCell ⟨wb, i, none⟩ v).heap[wb]? = some (.cells (vs.set i v).toArray 55 (0, 0))
    rw [this]; simp) (fun k hk => .inl hk)
  rw [hl]; exact h1
/-- A row, one text longer; its slice stored. -/
theorem stays_more {W' : World} {q : Nat} {v v' : Value} {r : List ByteArray} {s : ByteArray} (h : Sep B w W (staysL td wb sb vs ss rs)) (hv : vs[q]? = some v) (hr : rs[q]? = some r)
    (hm : Mod (fun k => v.ownBlock = some k) W W') (ha : AppendedG 9 1 W v r.length (strCells (r ++ [s])) v' W') : Sep B w (W'.setCell ⟨wb, q, none⟩ v') (staysL td wb sb (vs.set q v') ss (rs.set q (r ++ [s]))) := by
  obtain ⟨x, cp, rfl, hown, hat⟩ := ha
  have h1 := h.turnAt (i := 3 + q) (t := rowT v r) (t' := rowT (.slice (some ⟨x, 0, none⟩) (r.length + 1) cp) (r ++ [s])) (W' := W') (by
      unfold staysL
      rw [show 3 + q = q + 1 + 1 + 1 by omega]
      simpa using rowsT_at hv hr) hm (by
      show W'.ownsRow 0 9 1 _ (r ++ [s]).length (strCells (r ++ [s]))
      rw [List.length_append]; exact hown) (fun k hk => by
      have hk' : x = k := by simpa [rowT, Value.ownBlock] using hk
      rcases hat with e | e
      · exact .inl (by show v.ownBlock = some k; rw [e, hk'])
      · exact .inr (by omega))
  have hwb : (W'.setCell ⟨wb, q, none⟩ (.slice (some ⟨x, 0, none⟩) (r.length + 1) cp)).heap[wb]? = some (.cells (vs.set q (.slice (some ⟨x, 0, none⟩) (r.length + 1) cp)).toArray 55 (0, 0)) := by
    have hne := ownsRow_ne (stays_row h hv hr).1 (stays_wb h) (by decide)
    have hb := (hm.block wb (Array.getElem?_eq_some_iff.1 (stays_wb h)).1 hne).trans (stays_wb h)
    rw [heap_setCell_same W' wb q _ _ _ hb]; simp
  have h2 := h1.turnAt (i := 1) (t := blockT wb vs.toArray 55) (t' := blockT wb (vs.set q (.slice (some ⟨x, 0, none⟩) (r.length + 1) cp)).toArray 55) (W' := W'.setCell ⟨wb, q, none⟩ (.slice (some ⟨x, 0, none⟩) (r.length + 1) cp)) (by
      unfold staysL
      rw [show 3 + q = q + 1 + 1 + 1 by omega]
      rfl) (Mod.setCell (F := fun k => k = wb) _ _ _ rfl) hwb (fun k hk => .inl hk)
  have e : ((staysL td wb sb vs ss rs).set (3 + q) (rowT (.slice (some ⟨x, 0, none⟩) (r.length + 1) cp) (r ++ [s]))).set 1 (blockT wb (vs.set q (.slice (some ⟨x, 0, none⟩) (r.length + 1) cp)).toArray 55) = staysL td wb sb (vs.set q (.slice (some ⟨x, 0, none⟩) (r.length + 1) cp)) ss (rs.set q (r ++ [s])) := by
    unfold staysL
    rw [show 3 + q = q + 1 + 1 + 1 by omega]
    simp only [List.set_cons_succ, List.set_cons_zero, rowsT_set]
  rw [← e]; exact h2
end
/-- The six rows and two blocks, newly made. -/
theorem stays_start {B : Nat} {w W : World} {td : Thing} (h : Sep B w W [td]) (hb : W.heap.size = W.heap.size) : Sep B w ((W.alloc (.cells (strCells (List.replicate 6 ByteArray.empty)).toArray 54)).alloc (.cells (List.replicate 6 (Value.slice none 0 0)).toArray 55)) (staysL td (W.heap.size + 1) W.heap.size (List.replicate 6 (.slice none 0 0)) (List.replicate 6 ByteArray.empty) (List.replicate 6 [])) := by
  have row : ∀ {l : List Thing}, Sep B w W (td :: l) → Sep B w W (td :: rowT (.slice none 0 0) [] :: l) := fun hl =>
    (hl.new (t := rowT (.slice none 0 0) []) (NewMem.refl W) (World.ownsRow_nil _ _ _ _) (fun k hk => by simp [rowT, Value.ownBlock] at hk)).swap
  have h6 := row (row (row (row (row (row h)))))
  have h7 := (h6.new (t := blockT W.heap.size (strCells (List.replicate 6 ByteArray.empty)).toArray 54) (NewMem.alloc W (.cells (strCells (List.replicate 6 ByteArray.empty)).toArray 54)) (by
    show (W.alloc _).heap[W.heap.size]? = _
    exact heap_alloc_last _ _) (fun k hk => by rw [hk]; exact Nat.le_refl _)).swap
  have h8 := (h7.new (t := blockT (W.heap.size + 1) (List.replicate 6 (Value.slice none 0 0)).toArray 55) (NewMem.alloc (W.alloc (.cells (strCells (List.replicate 6 ByteArray.empty)).toArray 54)) (.cells (List.replicate 6 (Value.slice none 0 0)).toArray 55)) (by
    show (World.alloc _ _).heap[W.heap.size + 1]? = _
    have := heap_alloc_last (W.alloc (.cells (strCells (List.replicate 6 ByteArray.empty)).toArray 54)) (.cells (List.replicate 6 (Value.slice none 0 0)).toArray 55)
    rwa [World.size_alloc] at this) (fun k hk => by rw [hk]; simp)).swap
  exact h8
end Go.Proofs.Ytjnbdikhajnciaa.Drum
