/- A right cell's bytes, wherever they lie, are read as this cell; a beginning of them is not. -/
import Derived.Test.YtjelpapcboiimaaUY
import Derived.Test.YtjelpapcboiimaaUO
import Derived.Test.YtjelpapcboiimaaUL
namespace Go.Proofs.Ytjelpapcboiimaa.PCellPuts
open Go.RowKit Go.Proofs.YtjelpapcboiimaaW.PrintWords Go.Proofs.YtjelpapcboiimaaW.PrintLast Go.Proofs.YtjelpapcboiimaaW.PrintMore
set_option linter.unusedVariables false
set_option linter.unusedSimpArgs false

theorem ofNat_inj {a b : Nat} (ha : a < 256) (hb : b < 256) (h : UInt8.ofNat a = UInt8.ofNat b) : a = b := by
  have := congrArg UInt8.toNat h
  simp only [UInt8.toNat_ofNat'] at this
  omega
theorem cut_parts {s : ByteArray} {p n m : Nat} {A B : List UInt8} (h : cut s p (n + m) = A ++ B) (hA : A.length = n) (hl : p + n ≤ s.data.toList.length) : cut s p n = A ∧ cut s (p + n) m = B := by
  rw [cut_append] at h
  exact List.append_inj h (by rw [cut_len hl, hA])
theorem num_bes {s : ByteArray} {p : Nat} : ∀ (m k : Nat), k < m → p + (bes k).length ≤ s.data.toList.length → cut s p (bes k).length = bes k → numAt s p (bes k).length = k ∧ (0 < k → byteAt s p ≠ 0)
  | 0, k, h, _, _ => by omega
  | m + 1, k, h, hl, hc => by
    rcases Nat.eq_zero_or_pos k with rfl | h0
    · rw [bes_zero]; exact ⟨rfl, fun h => absurd h (by decide)⟩
    · rw [bes_pos h0] at hl hc ⊢
      rw [List.length_append, List.length_singleton] at hl hc ⊢
      rw [cut_snoc (by omega)] at hc
      obtain ⟨h1, h2⟩ := List.append_inj hc (by rw [cut_len (by omega)])
      injection h2 with h2 _
      have hb := ofNat_inj (byteAt_lt s _) (by omega) h2
      obtain ⟨i1, i2⟩ := num_bes m (k / 256) (by omega) (by omega) h1
      refine ⟨by rw [numAt, i1, hb]; omega, fun _ => ?_⟩
      rcases Nat.eq_zero_or_pos (k / 256) with hz | hz
      · rw [hz, bes_zero] at hb
        simp only [List.length_nil, Nat.add_zero] at hb
        omega
      · exact i2 hz
/-- The head of a cell, where it lies. -/
theorem head_at {s : ByteArray} {p j k : Nat} (hj : j < 15) (hk : k < 18446744073709551616) (hl : p + (headB j k).length ≤ s.data.toList.length) (hc : cut s p (headB j k).length = headB j k) :
    byteAt s p / 16 = j ∧ byteAt s p % 16 = (bes k).length ∧ numAt s (p + 1) (bes k).length = k ∧ (0 < (bes k).length → byteAt s (p + 1) ≠ 0) := by
  have h8 := bes_len8 hk
  unfold headB at hl hc
  rw [List.length_cons] at hl hc
  rw [cut_cons (by omega)] at hc
  injection hc with h1 h2
  have hb := ofNat_inj (byteAt_lt s _) (by omega) h1
  obtain ⟨i1, i2⟩ := num_bes (k + 1) k (by omega) (by omega) h2
  refine ⟨by omega, by omega, i1, fun h => i2 ?_⟩
  rcases Nat.eq_zero_or_pos k with rfl | h0
  · rw [bes_zero] at h; simp at h
  · exact h0
theorem headB_length (j k : Nat) : (headB j k).length = 1 + (bes k).length := by unfold headB; rw [List.length_cons]; omega
theorem empty_of {s : ByteArray} (h : s.size = 0) : s = ⟨#[]⟩ := by
  apply ByteArray.ext
  exact Array.eq_empty_of_size_eq_zero h
theorem bes_width {k w : Nat} (h : k < 256 ^ w) : (bes k).length ≤ w := bes_len w k h
/-- Reading the head, all that comes before the kinds part. -/
theorem cellW_head {s : ByteArray} {g : Nat → DR S25} {p j k : Nat} (hj1 : 1 ≤ j) (hj : j ≤ 4) (hk : k ≤ mostOf j) (hl : p + 1 + (bes k).length ≤ s.size) (hc : cut s p (headB j k).length = headB j k) :
    cellW s true g p = if j = 1 then .ok ⟨1, (k : Int), ⟨#[]⟩, []⟩ (p + 1 + (bes k).length) else if j = 2 then .ok ⟨1, -1 - (k : Int), ⟨#[]⟩, []⟩ (p + 1 + (bes k).length)
      else if j = 3 then (if s.size < p + 1 + (bes k).length + k then .bad s.size 3 else .ok ⟨2, 0, s.extract (p + 1 + (bes k).length) (p + 1 + (bes k).length + k), []⟩ (p + 1 + (bes k).length + k))
      else match manyW g k (p + 1 + (bes k).length) [] with
        | .ok l q' => .ok ⟨3, 0, ⟨#[]⟩, l⟩ q'
        | .bad p' e => .bad p' e := by
  have hmw : k < 18446744073709551616 ∧ (bes k).length ≤ widthOf j := by
    by_cases h12 : j = 1 ∨ j = 2
    · have hm : mostOf j = 9223372036854775807 := by unfold mostOf; rw [if_pos h12]
      have hw : widthOf j = 8 := by unfold widthOf; rw [if_pos h12]
      rw [hm] at hk; rw [hw]
      exact ⟨by omega, bes_len8 (by omega)⟩
    · have hw : widthOf j = 2 := by unfold widthOf; rw [if_neg h12]
      have hm : k ≤ 65535 := by unfold mostOf at hk; rw [if_neg h12] at hk; split at hk <;> omega
      rw [hw]
      exact ⟨by omega, bes_width (by simp; omega)⟩
  have hlen := headB_length j k
  obtain ⟨h1, h2, h3, h4⟩ := head_at (s := s) (p := p) (j := j) (k := k) (by omega) hmw.1 (by rw [hlen, ← Lib.size_eq]; omega) hc
  rw [cellW_eq, if_neg (by omega)]
  rw [h1, h2, h3, if_neg (by omega), if_neg (by omega), if_neg (by decide), if_neg (by omega), if_neg (by rintro ⟨a, b⟩; exact h4 a b), if_neg (by omega)]
  rfl
/-- The head's bytes are there, but not those behind it. -/
theorem cellW_short {s : ByteArray} {g : Nat → DR S25} {p j k : Nat} (hj1 : 1 ≤ j) (hj : j ≤ 4) (hk : k ≤ mostOf j) (hp : p ≤ s.size) (hl : s.size < p + 1 + (bes k).length) (hc : cut s p (s.size - p) = (headB j k).take (s.size - p)) :
    cellW s true g p = .bad s.size 3 := by
  have hmw : k < 18446744073709551616 ∧ (bes k).length ≤ widthOf j := by
    by_cases h12 : j = 1 ∨ j = 2
    · have hm : mostOf j = 9223372036854775807 := by unfold mostOf; rw [if_pos h12]
      have hw : widthOf j = 8 := by unfold widthOf; rw [if_pos h12]
      rw [hm] at hk; rw [hw]
      exact ⟨by omega, bes_len8 (by omega)⟩
    · have hw : widthOf j = 2 := by unfold widthOf; rw [if_neg h12]
      have hm : k ≤ 65535 := by unfold mostOf at hk; rw [if_neg h12] at hk; split at hk <;> omega
      rw [hw]
      exact ⟨by omega, bes_width (by simp; omega)⟩
  have h8 := bes_len8 hmw.1
  rw [cellW_eq]
  by_cases h0 : s.size < p + 1
  · rw [if_pos h0]
  rw [if_neg h0]
  have hsz := Lib.size_eq s
  obtain ⟨m, hm⟩ : ∃ m, s.size - p = m + 1 := ⟨s.size - p - 1, by omega⟩
  rw [hm, cut_cons (by omega)] at hc
  unfold headB at hc
  rw [List.take_succ_cons] at hc
  injection hc with h1 h2
  have hb := ofNat_inj (byteAt_lt s _) (by omega) h1
  rw [if_neg (by omega), if_neg (by rw [show byteAt s p / 16 = j by omega]; omega), if_neg (by decide), if_pos (by omega)]
/-- What is placed is read. -/
def Placed (s : ByteArray) (d p : Nat) (x : S25) : Prop := cut s p (encS x).length = encS x → p + (encS x).length ≤ s.size → cellD s d p = .ok x (p + (encS x).length)
def Short (s : ByteArray) (d p : Nat) (x : S25) : Prop := p ≤ s.size → s.size < p + (encS x).length → cut s p (s.size - p) = (encS x).take (s.size - p) → cellD s d p = .bad s.size 3
theorem many_placed {s : ByteArray} {f : Nat → DR S25} : ∀ (l : List S25), (∀ y ∈ l, ∀ p, cut s p (encS y).length = encS y → p + (encS y).length ≤ s.size → f p = .ok y (p + (encS y).length)) → ∀ (q : Nat) (acc : List S25),
    cut s q (encL l).length = encL l → q + (encL l).length ≤ s.size → manyW f l.length q acc = .ok (acc ++ l) (q + (encL l).length)
  | [], _, q, acc, _, _ => by rw [List.length_nil, manyW, encL, List.append_nil, List.length_nil, Nat.add_zero]
  | y :: ys, hf, q, acc, hc, hl => by
    have hsz := Lib.size_eq s
    rw [encL] at hc hl ⊢
    rw [List.length_append] at hc hl ⊢
    obtain ⟨c1, c2⟩ := cut_parts hc rfl (by omega)
    rw [List.length_cons, manyW, hf y List.mem_cons_self q c1 (by omega)]
    simp only
    rw [many_placed ys (fun z hz => hf z (List.mem_cons_of_mem _ hz)) _ _ c2 (by omega), List.append_assoc, Nat.add_assoc]
    rfl
theorem many_short {s : ByteArray} {f : Nat → DR S25} : ∀ (l : List S25), (∀ y ∈ l, ∀ p, cut s p (encS y).length = encS y → p + (encS y).length ≤ s.size → f p = .ok y (p + (encS y).length)) →
    (∀ y ∈ l, ∀ p, p ≤ s.size → s.size < p + (encS y).length → cut s p (s.size - p) = (encS y).take (s.size - p) → f p = .bad s.size 3) → ∀ (q : Nat) (acc : List S25),
    q ≤ s.size → s.size < q + (encL l).length → cut s q (s.size - q) = (encL l).take (s.size - q) → manyW f l.length q acc = .bad s.size 3
  | [], _, _, q, acc, h1, h2, _ => by rw [encL, List.length_nil] at h2; omega
  | y :: ys, hf, hg, q, acc, h1, h2, hc => by
    have hsz := Lib.size_eq s
    rw [encL] at hc h2
    rw [List.length_append] at h2
    rw [List.length_cons, manyW]
    by_cases hs : s.size < q + (encS y).length
    · rw [List.take_append_of_le_length (by omega)] at hc
      rw [hg y List.mem_cons_self q h1 hs hc]
    · rw [show s.size - q = (encS y).length + (s.size - (q + (encS y).length)) by omega, List.take_length_add_append] at hc
      obtain ⟨c1, c2⟩ := cut_parts hc rfl (by omega)
      rw [hf y List.mem_cons_self q c1 (by omega)]
      simp only
      exact many_short ys (fun z hz => hf z (List.mem_cons_of_mem _ hz)) (fun z hz => hg z (List.mem_cons_of_mem _ hz)) _ _ (by omega) (by omega) c2
theorem extract_cut {s : ByteArray} {a k : Nat} {t : ByteArray} (hk : t.size = k) (h : cut s a k = t.data.toList) : s.extract a (a + k) = t := by
  rw [Lib.extract_eq]
  unfold cut at h
  rw [show a + k - a = k by omega, h]
/-- A right cell: its kind, and what it has. -/
theorem ok_cases {d : Nat} {x : S25} (h : okS d x = true) : ∃ d', d = d' + 1 ∧ ((∃ n, x = ⟨1, n, ⟨#[]⟩, []⟩) ∨ (∃ t, x = ⟨2, 0, t, []⟩ ∧ t.size ≤ 65535) ∨ ∃ l, x = ⟨3, 0, ⟨#[]⟩, l⟩ ∧ l.length ≤ 4095 ∧ ∀ y ∈ l, okS d' y = true) := by
  cases d with
  | zero => rw [okS] at h; cases h
  | succ d =>
    obtain ⟨k, n, s, l⟩ := x
    rw [okS] at h
    refine ⟨d, rfl, ?_⟩
    split at h
    · rename_i hk
      simp only [Bool.and_eq_true, decide_eq_true_eq] at h
      exact .inl ⟨n, by rw [hk, empty_of h.1, List.eq_nil_of_length_eq_zero h.2]⟩
    split at h
    · rename_i hk
      simp only [Bool.and_eq_true, decide_eq_true_eq] at h
      exact .inr (.inl ⟨s, by rw [hk, h.1, List.eq_nil_of_length_eq_zero h.2.1], h.2.2⟩)
    split at h
    · rename_i hk
      simp only [Bool.and_eq_true, decide_eq_true_eq, List.all_eq_true] at h
      exact .inr (.inr ⟨l, by rw [hk, h.1, empty_of h.2.1], h.2.2.1, h.2.2.2⟩)
    · cases h
theorem encS_num (n : Int) : encS ⟨1, n, ⟨#[]⟩, []⟩ = if n < 0 then headB 2 (-(n + 1)).toNat else headB 1 n.toNat := by rw [encS, if_pos rfl]
theorem encS_text (t : ByteArray) : encS ⟨2, 0, t, []⟩ = headB 3 t.size ++ t.data.toList := by rw [encS, if_neg (by decide), if_pos rfl]
theorem encS_list (l : List S25) : encS ⟨3, 0, ⟨#[]⟩, l⟩ = headB 4 l.length ++ encL l := by rw [encS, if_neg (by decide), if_neg (by decide)]
theorem placed_any (s : ByteArray) : ∀ (d : Nat) (p : Nat) (x : S25), okS d x = true → wfS x → Placed s d p x := by
  intro d
  induction d with
  | zero => intro p x h; rw [okS] at h; cases h
  | succ d ih =>
    intro p x h hw hc hl
    have hsz := Lib.size_eq s
    obtain ⟨d', hd, hx⟩ := ok_cases h
    obtain rfl : d = d' := by omega
    rw [cellD]
    rcases hx with ⟨n, rfl⟩ | ⟨t, rfl, ht⟩ | ⟨l, rfl, hll, hok⟩
    · rw [wfS] at hw
      rw [encS_num] at hc hl ⊢
      by_cases hn : n < 0
      · rw [if_pos hn] at hc hl ⊢
        have hlen := headB_length 2 (-(n + 1)).toNat
        rw [cellW_head (j := 2) (by decide) (by decide) (by rw [most_2]; omega) (by omega) hc, if_neg (by decide), if_pos rfl, hlen]
        congr 1
        · congr 1; omega
        · omega
      · rw [if_neg hn] at hc hl ⊢
        have hlen := headB_length 1 n.toNat
        rw [cellW_head (j := 1) (by decide) (by decide) (by rw [most_1]; omega) (by omega) hc, if_pos rfl, hlen]
        congr 1
        · congr 1; omega
        · omega
    · rw [encS_text] at hc hl ⊢
      have hlen := headB_length 3 t.size
      have htl := Lib.size_eq t
      rw [List.length_append] at hc hl ⊢
      obtain ⟨c1, c2⟩ := cut_parts hc rfl (by omega)
      rw [cellW_head (j := 3) (by decide) (by decide) (by rw [most_3]; omega) (by omega) c1, if_neg (by decide), if_neg (by decide), if_pos rfl, if_neg (by omega)]
      rw [← htl, hlen, show p + (1 + (bes t.size).length) = p + 1 + (bes t.size).length by omega] at c2
      rw [extract_cut rfl c2]
      congr 1
      omega
    · rw [wfS] at hw
      rw [encS_list] at hc hl ⊢
      have hlen := headB_length 4 l.length
      rw [List.length_append] at hc hl ⊢
      obtain ⟨c1, c2⟩ := cut_parts hc rfl (by omega)
      rw [cellW_head (j := 4) (by decide) (by decide) (by rw [most_4]; omega) (by omega) c1, if_neg (by decide), if_neg (by decide), if_neg (by decide)]
      rw [hlen, show p + (1 + (bes l.length).length) = p + 1 + (bes l.length).length by omega] at c2
      rw [many_placed l (fun y hy q => ih q y (hok y hy) (wfL_mem hw.2.2.2.2 hy)) _ _ c2 (by omega)]
      simp only [List.nil_append]
      congr 1
      omega
theorem short_any (s : ByteArray) : ∀ (d : Nat) (p : Nat) (x : S25), okS d x = true → wfS x → Short s d p x := by
  intro d
  induction d with
  | zero => intro p x h; rw [okS] at h; cases h
  | succ d ih =>
    intro p x h hw hp hl hc
    have hsz := Lib.size_eq s
    obtain ⟨d', hd, hx⟩ := ok_cases h
    obtain rfl : d = d' := by omega
    rw [cellD]
    rcases hx with ⟨n, rfl⟩ | ⟨t, rfl, ht⟩ | ⟨l, rfl, hll, hok⟩
    · rw [wfS] at hw
      rw [encS_num] at hc hl
      by_cases hn : n < 0
      · rw [if_pos hn] at hc hl
        have hlen := headB_length 2 (-(n + 1)).toNat
        exact cellW_short (j := 2) (by decide) (by decide) (by rw [most_2]; omega) hp (by omega) hc
      · rw [if_neg hn] at hc hl
        have hlen := headB_length 1 n.toNat
        exact cellW_short (j := 1) (by decide) (by decide) (by rw [most_1]; omega) hp (by omega) hc
    · rw [encS_text] at hc hl
      have hlen := headB_length 3 t.size
      have htl := Lib.size_eq t
      rw [List.length_append] at hl
      by_cases hs : s.size < p + 1 + (bes t.size).length
      · rw [List.take_append_of_le_length (by omega)] at hc
        exact cellW_short (j := 3) (by decide) (by decide) (by rw [most_3]; omega) hp hs hc
      · rw [show s.size - p = (headB 3 t.size).length + (s.size - (p + (headB 3 t.size).length)) by omega, List.take_length_add_append] at hc
        obtain ⟨c1, c2⟩ := cut_parts hc rfl (by omega)
        rw [cellW_head (j := 3) (by decide) (by decide) (by rw [most_3]; omega) (by omega) c1, if_neg (by decide), if_neg (by decide), if_pos rfl, if_pos (by omega)]
    · rw [wfS] at hw
      rw [encS_list] at hc hl
      have hlen := headB_length 4 l.length
      rw [List.length_append] at hl
      by_cases hs : s.size < p + 1 + (bes l.length).length
      · rw [List.take_append_of_le_length (by omega)] at hc
        exact cellW_short (j := 4) (by decide) (by decide) (by rw [most_4]; omega) hp hs hc
      · rw [show s.size - p = (headB 4 l.length).length + (s.size - (p + (headB 4 l.length).length)) by omega, List.take_length_add_append] at hc
        obtain ⟨c1, c2⟩ := cut_parts hc rfl (by omega)
        rw [cellW_head (j := 4) (by decide) (by decide) (by rw [most_4]; omega) (by omega) c1, if_neg (by decide), if_neg (by decide), if_neg (by decide)]
        rw [hlen, show p + (1 + (bes l.length).length) = p + 1 + (bes l.length).length by omega] at c2
        rw [many_short l (fun y hy q => placed_any s d q y (hok y hy) (wfL_mem hw.2.2.2.2 hy)) (fun y hy q => ih q y (hok y hy) (wfL_mem hw.2.2.2.2 hy)) _ [] (by omega) (by omega) c2]
end Go.Proofs.Ytjelpapcboiimaa.PCellPuts
