/- What stays, in plain terms; things in a list, one of them turned. -/
import Derived.Test.YtjnbdikhajnciaaFj
import Derived.Test.YtjnbdikhajnciaaEn
namespace Go.Proofs.Ytjnbdikhajnciaa.Drum
open Go.RowKit Go.Proofs.Ytjnbdikhajnciaa.Ord Go.Proofs.YtjnbdikhajnciaaW.PrintWords Go.Proofs.Ytjnbdikhajnciaa.Base
set_option linter.unusedVariables false
set_option linter.unusedSimpArgs false

/-- What was written to a sector. -/
def wroteOf (L : List (Nat × List UInt8)) (i : Nat) : List (List UInt8) := (L.filter (fun q => q.1 == i)).map (·.2)
theorem wroteOf_snoc (L : List (Nat × List UInt8)) (q : Nat × List UInt8) (i : Nat) : wroteOf (L ++ [q]) i = if q.1 = i then wroteOf L i ++ [q.2] else wroteOf L i := by
  unfold wroteOf
  by_cases h : q.1 = i
  · simp [h]
  · simp [h]
theorem wroteOf_len (L : List (Nat × List UInt8)) (i : Nat) : (wroteOf L i).length ≤ L.length := by unfold wroteOf; rw [List.length_map]; exact List.length_filter_le _ _
theorem keepN_any (p : Nat → Bool) (L : List (Nat × List UInt8)) (S : List (List UInt8)) (i : Nat) (x : List UInt8) : ∀ n, (keepN p L S n)[i]? = some x → S[i]? = some x ∨ x ∈ wroteOf L i
  | 0, h => .inl h
  | n + 1, h => by
    unfold keepN at h
    split at h
    · rename_i q hq
      split at h
      · rw [List.getElem?_set] at h
        split at h
        · rename_i hqi
          split at h
          · injection h with h
            right
            unfold wroteOf
            exact List.mem_map.2 ⟨q, List.mem_filter.2 ⟨List.mem_of_getElem? hq, by simp [hqi]⟩, h⟩
          · cases h
        · exact keepN_any p L S i x n h
      · exact keepN_any p L S i x n h
    · exact keepN_any p L S i x n h
theorem keepN_last (L : List (Nat × List UInt8)) (S : List (List UInt8)) (i : Nat) (hi : i < S.length) : ∀ n, n ≤ L.length → (keepN (fun _ => true) L S n)[i]? = some ((wroteOf (L.take n) i).getLast?.getD (S.getD i []))
  | 0, _ => by simp [keepN, wroteOf, List.getElem?_eq_getElem hi]
  | n + 1, hn => by
    have hq : L[n]? = some (L[n]'(by omega)) := List.getElem?_eq_getElem (by omega)
    have ih := keepN_last L S i hi n (by omega)
    unfold keepN
    rw [hq]
    simp only [if_true]
    rw [List.take_add_one, hq, Option.toList_some, wroteOf_snoc, List.getElem?_set]
    by_cases h : (L[n]'(by omega)).1 = i
    · rw [if_pos h, if_pos h, if_pos (by rw [keepN_len, h]; exact hi)]
      simp
    · rw [if_neg h, if_neg h]; exact ih
/-- Has any of the first k texts this one? -/
def foundN (s s0 : ByteArray) (ws : List ByteArray) (k : Nat) : Bool := (s.toList == s0.toList) || (ws.take k).any (fun x => s.toList == x.toList)
theorem foundN_succ (s s0 : ByteArray) (ws : List ByteArray) (k : Nat) (x : ByteArray) (h : ws[k]? = some x) : foundN s s0 ws (k + 1) = (foundN s s0 ws k || s.toList == x.toList) := by
  unfold foundN
  rw [List.take_add_one, h, Option.toList_some, List.any_append]
  simp [Bool.or_assoc]
/-- What a crash leaves was sure, or was written. -/
theorem keep_found (p : Nat → Bool) (L : List (Nat × List UInt8)) (S : List (List UInt8)) (i : Nat) (hi : i < S.length) : foundN (str ((keepN p L S L.length).getD i [])) (str (S.getD i [])) ((wroteOf L i).map str) (wroteOf L i).length = true := by
  have hlen : i < (keepN p L S L.length).length := by rw [keepN_len]; exact hi
  have hk := List.getElem?_eq_getElem hlen
  rw [List.getD_eq_getElem?_getD, hk, Option.getD_some]
  unfold foundN
  rcases keepN_any p L S i _ _ hk with h | h
  · rw [List.getD_eq_getElem?_getD, h, Option.getD_some]; simp
  · rw [List.take_of_length_le (by rw [List.length_map]; exact Nat.le_refl _), Bool.or_eq_true]
    right
    exact List.any_eq_true.2 ⟨_, List.mem_map_of_mem h, by simp⟩
/-- The last that was written, else what was sure. -/
theorem keep_last (L : List (Nat × List UInt8)) (S : List (List UInt8)) (i : Nat) (hi : i < S.length) : (keepN (fun _ => true) L S L.length).getD i [] = (wroteOf L i).getLast?.getD (S.getD i []) := by
  rw [List.getD_eq_getElem?_getD, keepN_last L S i hi L.length (Nat.le_refl _), Option.getD_some, List.take_length]
theorem perm_at {α : Type} : ∀ (l : List α) (i : Nat) (h : i < l.length), (l[i] :: l.eraseIdx i).Perm l
  | a :: l, 0, _ => List.Perm.refl _
  | a :: l, i + 1, h => by
    have ih := perm_at l i (by simpa using h)
    exact (List.Perm.swap a _ _).trans (ih.cons a)
/-- One thing of the list turned. -/
theorem Sep.turnAt {B : Nat} {w W W' : World} {l : List Thing} {i : Nat} {t t' : Thing} (h : Sep B w W l) (hi : l[i]? = some t) (hm : Mod t.F W W') (ht : t'.P W') (hF : ∀ k, t'.F k → t.F k ∨ W.heap.size ≤ k) : Sep B w W' (l.set i t') := by
  have hil := (List.getElem?_eq_some_iff.1 hi).1
  have hp : l.Perm (t :: l.eraseIdx i) := by
    have := (perm_at l i hil).symm
    rwa [(List.getElem?_eq_some_iff.1 hi).2] at this
  have hp' : (t' :: l.eraseIdx i).Perm (l.set i t') := by
    have hl' : i < (l.set i t').length := by rw [List.length_set]; exact hil
    have := perm_at _ i hl'
    rwa [List.getElem_set_self, List.eraseIdx_set_eq] at this
  exact ((h.perm hp).turn hm ht hF).perm hp'
/-- A row of texts. -/
def rowT (v : Value) (l : List ByteArray) : Thing where
  P := fun W => W.ownsRow 0 9 1 v l.length (strCells l)
  F := fun k => v.ownBlock = some k
  kept := fun W W' G h hm hG => ownsRow_mod h hm hG
  lt := fun W h k hk => (h.lt k hk).2
end Go.Proofs.Ytjnbdikhajnciaa.Drum
