/- Texts of one proof, joined: TY, TZ. -/
import Derived.Test.YtgjlchcfdbmmlaaDoorROfg
import Derived.Test.YtgjlchcfdbmmlaaDoorRTcg
set_option linter.unusedSimpArgs false
set_option linter.unusedVariables false
/- What is read from a place on: its bytes are the cell's, and it is right. -/
namespace Go.Proofs.YtgjlchcfdbmmlaaDoor.PObjectTakes
open Go.RowKit Go.Proofs.YtgjlchcfdbmmlaaDoorW.PrintWords Go.Proofs.YtgjlchcfdbmmlaaDoorW.PrintLast Go.Proofs.YtgjlchcfdbmmlaaDoorW.PrintMore
set_option linter.unusedVariables false
set_option linter.unusedSimpArgs false

theorem byteAt_eq {s : ByteArray} {p : Nat} (h : p < s.data.toList.length) : byteAt s p = (s.data.toList[p]).toNat := by
  unfold byteAt; rw [List.getD_eq_getElem?_getD, List.getElem?_eq_getElem h]; rfl
theorem ofNat_byteAt {s : ByteArray} {p : Nat} (h : p < s.data.toList.length) : UInt8.ofNat (byteAt s p) = s.data.toList[p] := by
  rw [byteAt_eq h]; simp
/-- n bytes from p on. -/
def cut (s : ByteArray) (p n : Nat) : List UInt8 := (s.data.toList.drop p).take n
theorem cut_zero (s : ByteArray) (p : Nat) : cut s p 0 = [] := by simp [cut]
theorem cut_snoc {s : ByteArray} {p n : Nat} (h : p + n < s.data.toList.length) : cut s p (n + 1) = cut s p n ++ [UInt8.ofNat (byteAt s (p + n))] := by
  unfold cut
  rw [List.take_succ_eq_append_getElem (by rw [List.length_drop]; omega), ofNat_byteAt h]
  simp
theorem cut_cons {s : ByteArray} {p n : Nat} (h : p < s.data.toList.length) : cut s p (n + 1) = UInt8.ofNat (byteAt s p) :: cut s (p + 1) n := by
  unfold cut
  rw [List.drop_eq_getElem_cons h, List.take_succ_cons, ofNat_byteAt h]
theorem cut_append (s : ByteArray) (p n m : Nat) : cut s p (n + m) = cut s p n ++ cut s (p + n) m := by
  unfold cut
  rw [List.take_add, List.drop_drop]
theorem cut_len {s : ByteArray} {p n : Nat} (h : p + n ≤ s.data.toList.length) : (cut s p n).length = n := by
  unfold cut; rw [List.length_take, List.length_drop]; omega
theorem numAt_mono (s : ByteArray) (p : Nat) {m n : Nat} (h : m ≤ n) : numAt s p m ≤ numAt s p n := by
  induction n with
  | zero => obtain rfl : m = 0 := by omega
            exact Nat.le_refl _
  | succ n ih =>
    rcases Nat.lt_or_ge n m with h' | h'
    · obtain rfl : m = n + 1 := by omega
      exact Nat.le_refl _
    · rw [numAt]; have := ih h'; omega
theorem numAt_pos {s : ByteArray} {p n : Nat} (hn : 0 < n) (h : byteAt s p ≠ 0) : 0 < numAt s p n := by
  have := numAt_mono s p (m := 1) (n := n) hn
  have e : numAt s p 1 = byteAt s p := by simp [numAt]
  omega
theorem bes_num {s : ByteArray} {p : Nat} : ∀ n, p + n ≤ s.data.toList.length → (0 < n → byteAt s p ≠ 0) → bes (numAt s p n) = cut s p n
  | 0, _, _ => by rw [cut_zero, numAt, bes_zero]
  | n + 1, hl, h0 => by
    have hb := byteAt_lt s (p + n)
    have hp : 0 < numAt s p (n + 1) := numAt_pos (by omega) (h0 (by omega))
    rw [bes_pos hp, cut_snoc (by omega), ← bes_num n (by omega) (fun _ => h0 (by omega)), numAt]
    rw [show (numAt s p n * 256 + byteAt s (p + n)) / 256 = numAt s p n by omega, show (numAt s p n * 256 + byteAt s (p + n)) % 256 = byteAt s (p + n) by omega]
def rowR : DR (List S42) → DR S42
  | .ok l q => .ok ⟨3, 0, ⟨#[]⟩, l⟩ q
  | .bad p e => .bad p e
theorem cellW_eq (s : ByteArray) (deep : Bool) (g : Nat → DR S42) (p : Nat) : cellW s deep g p =
  if s.size < p + 1 then .bad s.size 3
  else if byteAt s p / 16 < 1 ∨ 4 < byteAt s p / 16 then .bad p 4
    else if widthOf (byteAt s p / 16) < byteAt s p % 16 then .bad p 4
    else if deep = false then .bad p 5
    else if s.size < p + 1 + byteAt s p % 16 then .bad s.size 3
    else if 0 < byteAt s p % 16 ∧ byteAt s (p + 1) = 0 then .bad p 4
    else if mostOf (byteAt s p / 16) < numAt s (p + 1) (byteAt s p % 16) then .bad p 4
      else if byteAt s p / 16 = 1 then .ok ⟨1, (numAt s (p + 1) (byteAt s p % 16) : Int), ⟨#[]⟩, []⟩ (p + 1 + byteAt s p % 16)
      else if byteAt s p / 16 = 2 then .ok ⟨1, -1 - (numAt s (p + 1) (byteAt s p % 16) : Int), ⟨#[]⟩, []⟩ (p + 1 + byteAt s p % 16)
      else if byteAt s p / 16 = 3 then (if s.size < p + 1 + byteAt s p % 16 + numAt s (p + 1) (byteAt s p % 16) then .bad s.size 3 else .ok ⟨2, 0, s.extract (p + 1 + byteAt s p % 16) (p + 1 + byteAt s p % 16 + numAt s (p + 1) (byteAt s p % 16)), []⟩ (p + 1 + byteAt s p % 16 + numAt s (p + 1) (byteAt s p % 16)))
      else rowR (manyW g (numAt s (p + 1) (byteAt s p % 16)) (p + 1 + byteAt s p % 16) []) := rfl
/-- What it takes for a cell to be read. -/
theorem cellW_ok {s : ByteArray} {deep : Bool} {g : Nat → DR S42} {p : Nat} {x : S42} {q : Nat} (h : cellW s deep g p = .ok x q) :
    p < s.size ∧ 1 ≤ byteAt s p / 16 ∧ byteAt s p / 16 ≤ 4 ∧ byteAt s p % 16 ≤ widthOf (byteAt s p / 16) ∧ deep = true ∧ p + 1 + byteAt s p % 16 ≤ s.size ∧ (0 < byteAt s p % 16 → byteAt s (p + 1) ≠ 0) ∧ numAt s (p + 1) (byteAt s p % 16) ≤ mostOf (byteAt s p / 16) ∧
    ((byteAt s p / 16 = 1 ∧ x = ⟨1, (numAt s (p + 1) (byteAt s p % 16) : Int), ⟨#[]⟩, []⟩ ∧ q = p + 1 + byteAt s p % 16) ∨
     (byteAt s p / 16 = 2 ∧ x = ⟨1, -1 - (numAt s (p + 1) (byteAt s p % 16) : Int), ⟨#[]⟩, []⟩ ∧ q = p + 1 + byteAt s p % 16) ∨
     (byteAt s p / 16 = 3 ∧ p + 1 + byteAt s p % 16 + numAt s (p + 1) (byteAt s p % 16) ≤ s.size ∧ x = ⟨2, 0, s.extract (p + 1 + byteAt s p % 16) (p + 1 + byteAt s p % 16 + numAt s (p + 1) (byteAt s p % 16)), []⟩ ∧ q = p + 1 + byteAt s p % 16 + numAt s (p + 1) (byteAt s p % 16)) ∨
     (byteAt s p / 16 = 4 ∧ ∃ l, manyW g (numAt s (p + 1) (byteAt s p % 16)) (p + 1 + byteAt s p % 16) [] = .ok l q ∧ x = ⟨3, 0, ⟨#[]⟩, l⟩)) := by
  rw [cellW_eq] at h
  by_cases h1 : s.size < p + 1
  · rw [if_pos h1] at h; cases h
  rw [if_neg h1] at h
  by_cases h2 : byteAt s p / 16 < 1 ∨ 4 < byteAt s p / 16
  · rw [if_pos h2] at h; cases h
  rw [if_neg h2] at h
  by_cases h3 : widthOf (byteAt s p / 16) < byteAt s p % 16
  · rw [if_pos h3] at h; cases h
  rw [if_neg h3] at h
  by_cases h4 : deep = false
  · rw [if_pos h4] at h; cases h
  rw [if_neg h4] at h
  by_cases h5 : s.size < p + 1 + byteAt s p % 16
  · rw [if_pos h5] at h; cases h
  rw [if_neg h5] at h
  by_cases h6 : 0 < byteAt s p % 16 ∧ byteAt s (p + 1) = 0
  · rw [if_pos h6] at h; cases h
  rw [if_neg h6] at h
  by_cases h7 : mostOf (byteAt s p / 16) < numAt s (p + 1) (byteAt s p % 16)
  · rw [if_pos h7] at h; cases h
  rw [if_neg h7] at h
  refine ⟨by omega, by omega, by omega, by omega, by simpa using h4, by omega, fun h0 he => h6 ⟨h0, he⟩, by omega, ?_⟩
  by_cases h8 : byteAt s p / 16 = 1
  · rw [if_pos h8] at h
    injection h with hx hq
    exact .inl ⟨h8, hx.symm, hq.symm⟩
  rw [if_neg h8] at h
  by_cases h9 : byteAt s p / 16 = 2
  · rw [if_pos h9] at h
    injection h with hx hq
    exact .inr (.inl ⟨h9, hx.symm, hq.symm⟩)
  rw [if_neg h9] at h
  by_cases h10 : byteAt s p / 16 = 3
  · rw [if_pos h10] at h
    by_cases h11 : s.size < p + 1 + byteAt s p % 16 + numAt s (p + 1) (byteAt s p % 16)
    · rw [if_pos h11] at h; cases h
    · rw [if_neg h11] at h
      injection h with hx hq
      exact .inr (.inr (.inl ⟨h10, by omega, hx.symm, hq.symm⟩))
  rw [if_neg h10] at h
  cases hm : manyW g (numAt s (p + 1) (byteAt s p % 16)) (p + 1 + byteAt s p % 16) [] with
  | ok l q' =>
    rw [hm, rowR] at h
    injection h with hx hq
    subst hq
    exact .inr (.inr (.inr ⟨by omega, l, rfl, hx.symm⟩))
  | bad p' e => rw [hm, rowR] at h; cases h
theorem manyW_bad {f : Nat → DR S42} (hf : ∀ q p e, f q = .bad p e → e = 3 ∨ e = 4 ∨ e = 5) : ∀ (k q : Nat) (acc : List S42) (p e : Nat), manyW f k q acc = .bad p e → e = 3 ∨ e = 4 ∨ e = 5
  | 0, q, acc, p, e, h => by rw [manyW] at h; cases h
  | k + 1, q, acc, p, e, h => by
    rw [manyW] at h
    cases hq : f q with
    | ok x q' => rw [hq] at h; exact manyW_bad hf k q' _ p e h
    | bad p' e' => rw [hq] at h; injection h with h1 h2; subst h2; exact hf _ _ _ hq
theorem cellW_bad {s : ByteArray} {deep : Bool} {g : Nat → DR S42} (hg : deep = true → ∀ q p e, g q = .bad p e → e = 3 ∨ e = 4 ∨ e = 5) {p : Nat} {p' e : Nat} (h : cellW s deep g p = .bad p' e) : e = 3 ∨ e = 4 ∨ e = 5 := by
  rw [cellW_eq] at h
  by_cases h1 : s.size < p + 1
  · rw [if_pos h1] at h; injection h with h1 h2; omega
  rw [if_neg h1] at h
  by_cases h2 : byteAt s p / 16 < 1 ∨ 4 < byteAt s p / 16
  · rw [if_pos h2] at h; injection h with h1 h2; omega
  rw [if_neg h2] at h
  by_cases h3 : widthOf (byteAt s p / 16) < byteAt s p % 16
  · rw [if_pos h3] at h; injection h with h1 h2; omega
  rw [if_neg h3] at h
  by_cases h4 : deep = false
  · rw [if_pos h4] at h; injection h with h1 h2; omega
  rw [if_neg h4] at h
  by_cases h5 : s.size < p + 1 + byteAt s p % 16
  · rw [if_pos h5] at h; injection h with h1 h2; omega
  rw [if_neg h5] at h
  by_cases h6 : 0 < byteAt s p % 16 ∧ byteAt s (p + 1) = 0
  · rw [if_pos h6] at h; injection h with h1 h2; omega
  rw [if_neg h6] at h
  by_cases h7 : mostOf (byteAt s p / 16) < numAt s (p + 1) (byteAt s p % 16)
  · rw [if_pos h7] at h; injection h with h1 h2; omega
  rw [if_neg h7] at h
  by_cases h8 : byteAt s p / 16 = 1
  · rw [if_pos h8] at h; cases h
  rw [if_neg h8] at h
  by_cases h9 : byteAt s p / 16 = 2
  · rw [if_pos h9] at h; cases h
  rw [if_neg h9] at h
  by_cases h10 : byteAt s p / 16 = 3
  · rw [if_pos h10] at h
    by_cases h11 : s.size < p + 1 + byteAt s p % 16 + numAt s (p + 1) (byteAt s p % 16)
    · rw [if_pos h11] at h; injection h with h1 h2; omega
    · rw [if_neg h11] at h; cases h
  rw [if_neg h10] at h
  cases hm : manyW g (numAt s (p + 1) (byteAt s p % 16)) (p + 1 + byteAt s p % 16) [] with
  | ok l q' => rw [hm, rowR] at h; cases h
  | bad p2 e2 =>
    rw [hm, rowR] at h
    injection h with h1 h2
    subst h2
    exact manyW_bad (hg (by simpa using h4)) _ _ _ _ _ hm
theorem cellD_bad (s : ByteArray) : ∀ (d p p' e : Nat), cellD s d p = .bad p' e → e = 3 ∨ e = 4 ∨ e = 5
  | 0, p, p', e, h => cellW_bad (fun x => by cases x) h
  | d + 1, p, p', e, h => cellW_bad (fun _ q p e hq => cellD_bad s d q p e hq) h
/-- What a reading gives. -/
structure Got (s : ByteArray) (d p : Nat) (x : S42) (q : Nat) : Prop where
  lt : p < q
  le : q ≤ s.size
  wf : wfS x
  ok : okS d x = true
  enc : cut s p (q - p) = encS x
theorem manyW_ok {s : ByteArray} {d : Nat} {f : Nat → DR S42} (hf : ∀ q x q', f q = .ok x q' → Got s d q x q') : ∀ (k q : Nat) (acc l : List S42) (q' : Nat), q ≤ s.size → manyW f k q acc = .ok l q' →
    ∃ l', l = acc ++ l' ∧ l'.length = k ∧ q ≤ q' ∧ q' ≤ s.size ∧ (∀ y ∈ l', wfS y ∧ okS d y = true) ∧ cut s q (q' - q) = encL l'
  | 0, q, acc, l, q', hq, h => by
    rw [manyW] at h
    injection h with h1 h2
    subst h1; subst h2
    exact ⟨[], by simp, rfl, Nat.le_refl _, hq, fun y hy => by simp at hy, by rw [Nat.sub_self, cut_zero, encL]⟩
  | k + 1, q, acc, l, q', hq, h => by
    rw [manyW] at h
    cases hx : f q with
    | bad p' e' => rw [hx] at h; cases h
    | ok x q1 =>
      rw [hx] at h
      have g := hf q x q1 hx
      obtain ⟨l', rfl, hl, h1, h2, h3, h4⟩ := manyW_ok hf k q1 (acc ++ [x]) l q' g.le h
      have := g.lt
      refine ⟨x :: l', by simp, by simp [hl], by omega, h2, fun y hy => ?_, ?_⟩
      · rcases List.mem_cons.1 hy with rfl | hy
        · exact ⟨g.wf, g.ok⟩
        · exact h3 y hy
      · rw [show q' - q = (q1 - q) + (q' - q1) by omega, cut_append, g.enc, show q + (q1 - q) = q1 by omega, h4, encL]
theorem most_1 : mostOf 1 = 9223372036854775807 := rfl
theorem most_2 : mostOf 2 = 9223372036854775807 := rfl
theorem most_3 : mostOf 3 = 65535 := rfl
theorem most_4 : mostOf 4 = 4095 := rfl
theorem cellD_got (s : ByteArray) (hs : s.size ≤ 140737488355328) : ∀ (d p : Nat) (x : S42) (q : Nat), cellD s d p = .ok x q → Got s d p x q
  | 0, p, x, q, h => by
    obtain ⟨_, _, _, _, e, _⟩ := cellW_ok h
    cases e
  | d + 1, p, x, q, h => by
    obtain ⟨h1, h2, h3, h4, _, h5, h6, h7, hx⟩ := cellW_ok h
    have hsz := Lib.size_eq s
    have hbes := bes_num (s := s) (p := p + 1) (byteAt s p % 16) (by omega) h6
    have hbl := cut_len (s := s) (p := p + 1) (n := byteAt s p % 16) (by omega)
    generalize hk : numAt s (p + 1) (byteAt s p % 16) = k at *
    have hhead : ∀ j, byteAt s p / 16 = j → cut s p (1 + byteAt s p % 16) = headB j k := by
      intro j hj
      rw [Nat.add_comm, cut_cons (by omega), headB, hbes, hbl]
      congr 2
      omega
    rcases hx with ⟨hj, rfl, rfl⟩ | ⟨hj, rfl, rfl⟩ | ⟨hj, hle, rfl, rfl⟩ | ⟨hj, l, hm, rfl⟩
    · rw [hj, most_1] at h7
      refine ⟨by omega, h5, ?_, ?_, ?_⟩
      · rw [wfS, wfL]; exact ⟨by omega, by omega, by decide, by decide, trivial⟩
      · rw [okS, if_pos rfl]; rfl
      · rw [encS, if_pos rfl, if_neg (by omega), show p + 1 + byteAt s p % 16 - p = 1 + byteAt s p % 16 by omega, hhead 1 hj, Int.toNat_natCast]
    · rw [hj, most_2] at h7
      refine ⟨by omega, h5, ?_, ?_, ?_⟩
      · rw [wfS, wfL]; exact ⟨by omega, by omega, by decide, by decide, trivial⟩
      · rw [okS, if_pos rfl]; rfl
      · rw [encS, if_pos rfl, if_pos (by omega), show p + 1 + byteAt s p % 16 - p = 1 + byteAt s p % 16 by omega, hhead 2 hj, show (-(-1 - (k : Int) + 1)).toNat = k by omega]
    · rw [hj, most_3] at h7
      have hxs : (s.extract (p + 1 + byteAt s p % 16) (p + 1 + byteAt s p % 16 + k)).data.toList = cut s (p + 1 + byteAt s p % 16) k := by rw [Lib.extract_data]; unfold cut; congr 1; omega
      have hxl : (s.extract (p + 1 + byteAt s p % 16) (p + 1 + byteAt s p % 16 + k)).size = k := by rw [Lib.size_eq, hxs, cut_len (by omega)]
      refine ⟨by omega, by omega, ?_, ?_, ?_⟩
      · rw [wfS, wfL, hxl]; exact ⟨by decide, by decide, by omega, by decide, trivial⟩
      · rw [okS, if_neg (by decide), if_pos rfl, hxl]; simp; omega
      · rw [encS, if_neg (by decide), if_pos rfl, hxl, hxs, show p + 1 + byteAt s p % 16 + k - p = (1 + byteAt s p % 16) + k by omega, cut_append, hhead 3 hj, show p + (1 + byteAt s p % 16) = p + 1 + byteAt s p % 16 by omega]
    · rw [hj, most_4] at h7
      obtain ⟨l', e, hl, g1, g2, g3, g4⟩ := manyW_ok (fun q x q' hq => cellD_got s hs d q x q' hq) _ _ _ _ _ h5 hm
      rw [List.nil_append] at e
      subst e
      refine ⟨by omega, g2, ?_, ?_, ?_⟩
      · rw [wfS]; exact ⟨by decide, by decide, by decide, by omega, wfL_of (fun y hy => (g3 y hy).1)⟩
      · rw [okS, if_neg (by decide), if_neg (by decide), if_pos rfl]
        have : l.all (okS d) = true := List.all_eq_true.2 (fun y hy => (g3 y hy).2)
        rw [this, decide_eq_true (show l.length ≤ 4095 by omega)]; rfl
      · rw [encS, if_neg (by decide), if_neg (by decide), show q - p = (1 + byteAt s p % 16) + (q - (p + 1 + byteAt s p % 16)) by omega, cut_append, hhead 4 hj, show p + (1 + byteAt s p % 16) = p + 1 + byteAt s p % 16 by omega, g4, hl]
end Go.Proofs.YtgjlchcfdbmmlaaDoor.PObjectTakes
/- A right cell's bytes, wherever they lie, are read as this cell; a beginning of them is not. -/
namespace Go.Proofs.YtgjlchcfdbmmlaaDoor.PObjectTakes
open Go.RowKit Go.Proofs.YtgjlchcfdbmmlaaDoorW.PrintWords Go.Proofs.YtgjlchcfdbmmlaaDoorW.PrintLast Go.Proofs.YtgjlchcfdbmmlaaDoorW.PrintMore
set_option linter.unusedVariables false
set_option linter.unusedSimpArgs false

theorem ofNat_inj {a b : Nat} (ha : a < 256) (hb : b < 256) (h : UInt8.ofNat a = UInt8.ofNat b) : a = b := by
  have := congrArg UInt8.toNat h
  simp only [UInt8.toNat_ofNat'] at this
  omega
theorem cut_parts {s : ByteArray} {p n m : Nat} {A B : List UInt8} (h : cut s p (n + m) = A ++ B) (hA : A.length = n) (hl : p + n ≤ s.data.toList.length) : cut s p n = A ∧ cut s (p + n) m = B := by
  rw [cut_append] at h
  exact List.append_inj h (by rw [cut_len hl, hA])
theorem num_bes {s : ByteArray} {p : Nat} : ∀ (m k : Nat), k < m → p + (bes k).length ≤ s.data.toList.length → cut s p (bes k).length = bes k → numAt s p (bes k).length = k ∧ (0 < k → byteAt s p ≠ 0)
  | 0, k, h, _, _ => by omega
  | m + 1, k, h, hl, hc => by
    rcases Nat.eq_zero_or_pos k with rfl | h0
    · rw [bes_zero]; exact ⟨rfl, fun h => absurd h (by decide)⟩
    · rw [bes_pos h0] at hl hc ⊢
      rw [List.length_append, List.length_singleton] at hl hc ⊢
      rw [cut_snoc (by omega)] at hc
      obtain ⟨h1, h2⟩ := List.append_inj hc (by rw [cut_len (by omega)])
      injection h2 with h2 _
      have hb := ofNat_inj (byteAt_lt s _) (by omega) h2
      obtain ⟨i1, i2⟩ := num_bes m (k / 256) (by omega) (by omega) h1
      refine ⟨by rw [numAt, i1, hb]; omega, fun _ => ?_⟩
      rcases Nat.eq_zero_or_pos (k / 256) with hz | hz
      · rw [hz, bes_zero] at hb
        simp only [List.length_nil, Nat.add_zero] at hb
        omega
      · exact i2 hz
/-- The head of a cell, where it lies. -/
theorem head_at {s : ByteArray} {p j k : Nat} (hj : j < 15) (hk : k < 18446744073709551616) (hl : p + (headB j k).length ≤ s.data.toList.length) (hc : cut s p (headB j k).length = headB j k) :
    byteAt s p / 16 = j ∧ byteAt s p % 16 = (bes k).length ∧ numAt s (p + 1) (bes k).length = k ∧ (0 < (bes k).length → byteAt s (p + 1) ≠ 0) := by
  have h8 := bes_len8 hk
  unfold headB at hl hc
  rw [List.length_cons] at hl hc
  rw [cut_cons (by omega)] at hc
  injection hc with h1 h2
  have hb := ofNat_inj (byteAt_lt s _) (by omega) h1
  obtain ⟨i1, i2⟩ := num_bes (k + 1) k (by omega) (by omega) h2
  refine ⟨by omega, by omega, i1, fun h => i2 ?_⟩
  rcases Nat.eq_zero_or_pos k with rfl | h0
  · rw [bes_zero] at h; simp at h
  · exact h0
theorem headB_length (j k : Nat) : (headB j k).length = 1 + (bes k).length := by unfold headB; rw [List.length_cons]; omega
theorem empty_of {s : ByteArray} (h : s.size = 0) : s = ⟨#[]⟩ := by
  apply ByteArray.ext
  exact Array.eq_empty_of_size_eq_zero h
theorem bes_width {k w : Nat} (h : k < 256 ^ w) : (bes k).length ≤ w := bes_len w k h
/-- Reading the head, all that comes before the kinds part. -/
theorem cellW_head {s : ByteArray} {g : Nat → DR S42} {p j k : Nat} (hj1 : 1 ≤ j) (hj : j ≤ 4) (hk : k ≤ mostOf j) (hl : p + 1 + (bes k).length ≤ s.size) (hc : cut s p (headB j k).length = headB j k) :
    cellW s true g p = if j = 1 then .ok ⟨1, (k : Int), ⟨#[]⟩, []⟩ (p + 1 + (bes k).length) else if j = 2 then .ok ⟨1, -1 - (k : Int), ⟨#[]⟩, []⟩ (p + 1 + (bes k).length)
      else if j = 3 then (if s.size < p + 1 + (bes k).length + k then .bad s.size 3 else .ok ⟨2, 0, s.extract (p + 1 + (bes k).length) (p + 1 + (bes k).length + k), []⟩ (p + 1 + (bes k).length + k))
      else match manyW g k (p + 1 + (bes k).length) [] with
        | .ok l q' => .ok ⟨3, 0, ⟨#[]⟩, l⟩ q'
        | .bad p' e => .bad p' e := by
  have hmw : k < 18446744073709551616 ∧ (bes k).length ≤ widthOf j := by
    by_cases h12 : j = 1 ∨ j = 2
    · have hm : mostOf j = 9223372036854775807 := by unfold mostOf; rw [if_pos h12]
      have hw : widthOf j = 8 := by unfold widthOf; rw [if_pos h12]
      rw [hm] at hk; rw [hw]
      exact ⟨by omega, bes_len8 (by omega)⟩
    · have hw : widthOf j = 2 := by unfold widthOf; rw [if_neg h12]
      have hm : k ≤ 65535 := by unfold mostOf at hk; rw [if_neg h12] at hk; split at hk <;> omega
      rw [hw]
      exact ⟨by omega, bes_width (by simp; omega)⟩
  have hlen := headB_length j k
  obtain ⟨h1, h2, h3, h4⟩ := head_at (s := s) (p := p) (j := j) (k := k) (by omega) hmw.1 (by rw [hlen, ← Lib.size_eq]; omega) hc
  rw [cellW_eq, if_neg (by omega)]
  rw [h1, h2, h3, if_neg (by omega), if_neg (by omega), if_neg (by decide), if_neg (by omega), if_neg (by rintro ⟨a, b⟩; exact h4 a b), if_neg (by omega)]
  rfl
/-- What is placed is read. -/
def Placed (s : ByteArray) (d p : Nat) (x : S42) : Prop := cut s p (encS x).length = encS x → p + (encS x).length ≤ s.size → cellD s d p = .ok x (p + (encS x).length)
theorem many_placed {s : ByteArray} {f : Nat → DR S42} : ∀ (l : List S42), (∀ y ∈ l, ∀ p, cut s p (encS y).length = encS y → p + (encS y).length ≤ s.size → f p = .ok y (p + (encS y).length)) → ∀ (q : Nat) (acc : List S42),
    cut s q (encL l).length = encL l → q + (encL l).length ≤ s.size → manyW f l.length q acc = .ok (acc ++ l) (q + (encL l).length)
  | [], _, q, acc, _, _ => by rw [List.length_nil, manyW, encL, List.append_nil, List.length_nil, Nat.add_zero]
  | y :: ys, hf, q, acc, hc, hl => by
    have hsz := Lib.size_eq s
    rw [encL] at hc hl ⊢
    rw [List.length_append] at hc hl ⊢
    obtain ⟨c1, c2⟩ := cut_parts hc rfl (by omega)
    rw [List.length_cons, manyW, hf y List.mem_cons_self q c1 (by omega)]
    simp only
    rw [many_placed ys (fun z hz => hf z (List.mem_cons_of_mem _ hz)) _ _ c2 (by omega), List.append_assoc, Nat.add_assoc]
    rfl
theorem extract_cut {s : ByteArray} {a k : Nat} {t : ByteArray} (hk : t.size = k) (h : cut s a k = t.data.toList) : s.extract a (a + k) = t := by
  rw [Lib.extract_eq]
  unfold cut at h
  rw [show a + k - a = k by omega, h]
/-- A right cell: its kind, and what it has. -/
theorem ok_cases {d : Nat} {x : S42} (h : okS d x = true) : ∃ d', d = d' + 1 ∧ ((∃ n, x = ⟨1, n, ⟨#[]⟩, []⟩) ∨ (∃ t, x = ⟨2, 0, t, []⟩ ∧ t.size ≤ 65535) ∨ ∃ l, x = ⟨3, 0, ⟨#[]⟩, l⟩ ∧ l.length ≤ 4095 ∧ ∀ y ∈ l, okS d' y = true) := by
  cases d with
  | zero => rw [okS] at h; cases h
  | succ d =>
    obtain ⟨k, n, s, l⟩ := x
    rw [okS] at h
    refine ⟨d, rfl, ?_⟩
    split at h
    · rename_i hk
      simp only [Bool.and_eq_true, decide_eq_true_eq] at h
      exact .inl ⟨n, by rw [hk, empty_of h.1, List.eq_nil_of_length_eq_zero h.2]⟩
    split at h
    · rename_i hk
      simp only [Bool.and_eq_true, decide_eq_true_eq] at h
      exact .inr (.inl ⟨s, by rw [hk, h.1, List.eq_nil_of_length_eq_zero h.2.1], h.2.2⟩)
    split at h
    · rename_i hk
      simp only [Bool.and_eq_true, decide_eq_true_eq, List.all_eq_true] at h
      exact .inr (.inr ⟨l, by rw [hk, h.1, empty_of h.2.1], h.2.2.1, h.2.2.2⟩)
    · cases h
theorem encS_num (n : Int) : encS ⟨1, n, ⟨#[]⟩, []⟩ = if n < 0 then headB 2 (-(n + 1)).toNat else headB 1 n.toNat := by rw [encS, if_pos rfl]
theorem encS_text (t : ByteArray) : encS ⟨2, 0, t, []⟩ = headB 3 t.size ++ t.data.toList := by rw [encS, if_neg (by decide), if_pos rfl]
theorem encS_list (l : List S42) : encS ⟨3, 0, ⟨#[]⟩, l⟩ = headB 4 l.length ++ encL l := by rw [encS, if_neg (by decide), if_neg (by decide)]
theorem placed_any (s : ByteArray) : ∀ (d : Nat) (p : Nat) (x : S42), okS d x = true → wfS x → Placed s d p x := by
  intro d
  induction d with
  | zero => intro p x h; rw [okS] at h; cases h
  | succ d ih =>
    intro p x h hw hc hl
    have hsz := Lib.size_eq s
    obtain ⟨d', hd, hx⟩ := ok_cases h
    obtain rfl : d = d' := by omega
    rw [cellD]
    rcases hx with ⟨n, rfl⟩ | ⟨t, rfl, ht⟩ | ⟨l, rfl, hll, hok⟩
    · rw [wfS] at hw
      rw [encS_num] at hc hl ⊢
      by_cases hn : n < 0
      · rw [if_pos hn] at hc hl ⊢
        have hlen := headB_length 2 (-(n + 1)).toNat
        rw [cellW_head (j := 2) (by decide) (by decide) (by rw [most_2]; omega) (by omega) hc, if_neg (by decide), if_pos rfl, hlen]
        congr 1
        · congr 1; omega
        · omega
      · rw [if_neg hn] at hc hl ⊢
        have hlen := headB_length 1 n.toNat
        rw [cellW_head (j := 1) (by decide) (by decide) (by rw [most_1]; omega) (by omega) hc, if_pos rfl, hlen]
        congr 1
        · congr 1; omega
        · omega
    · rw [encS_text] at hc hl ⊢
      have hlen := headB_length 3 t.size
      have htl := Lib.size_eq t
      rw [List.length_append] at hc hl ⊢
      obtain ⟨c1, c2⟩ := cut_parts hc rfl (by omega)
      rw [cellW_head (j := 3) (by decide) (by decide) (by rw [most_3]; omega) (by omega) c1, if_neg (by decide), if_neg (by decide), if_pos rfl, if_neg (by omega)]
      rw [← htl, hlen, show p + (1 + (bes t.size).length) = p + 1 + (bes t.size).length by omega] at c2
      rw [extract_cut rfl c2]
      congr 1
      omega
    · rw [wfS] at hw
      rw [encS_list] at hc hl ⊢
      have hlen := headB_length 4 l.length
      rw [List.length_append] at hc hl ⊢
      obtain ⟨c1, c2⟩ := cut_parts hc rfl (by omega)
      rw [cellW_head (j := 4) (by decide) (by decide) (by rw [most_4]; omega) (by omega) c1, if_neg (by decide), if_neg (by decide), if_neg (by decide)]
      rw [hlen, show p + (1 + (bes l.length).length) = p + 1 + (bes l.length).length by omega] at c2
      rw [many_placed l (fun y hy q => ih q y (hok y hy) (wfL_mem hw.2.2.2.2 hy)) _ _ c2 (by omega)]
      simp only [List.nil_append]
      congr 1
      omega
end Go.Proofs.YtgjlchcfdbmmlaaDoor.PObjectTakes
