/- The document's right, Puts, Put, Check and Size say what the program's say. -/
import Derived.Test.YtjelpapcboiimaaUO
import Derived.Test.YtjelpapcboiimaaPCellPutsx5
namespace Go.Proofs.Ytjelpapcboiimaa.PCellPuts
open Go.RowKit Go.Proofs.YtjelpapcboiimaaW.PrintWords Go.Proofs.YtjelpapcboiimaaW.PrintLast Go.Proofs.YtjelpapcboiimaaW.PrintMore
set_option linter.unusedVariables false
set_option linter.unusedSimpArgs false

theorem right_loop {l : List S25} (d : Nat) (hd : d ≤ 100) (hl : l.length ≤ 9223372036854775807) (ih : ∀ y ∈ l, wfW y → Ev (fun k => fastiref04_right.f k y.f0 y.f1 y.f2 y.f3 (d : Int)) (okS d y)) (hw : wfWL l) (a b : Int) (s : ByteArray) :
    ∀ (e i : Nat), i + e = l.length → Ev (fun k => fastiref04_right.l0 k ((d + 1 : Nat) : Int) (i : Int) a b s l) ((l.drop i).all (okS d)) := by
  intro e
  induction e with
  | zero =>
    intro i hi
    refine Ev.step (f := fun _ => some _) (fun k => ?_) (Ev.now _)
    rw [fastiref04_right.l0, if_neg (by omega), List.drop_eq_nil_of_le (by omega)]; rfl
  | succ e ihe =>
    intro i hi
    have hil : i < l.length := by omega
    have w1 : wrap64 (((d + 1 : Nat) : Int) - 1) = (d : Int) := by unfold wrap64; omega
    have w2 : wrap64 ((i : Int) + 1) = ((i + 1 : Nat) : Int) := by unfold wrap64; omega
    have h1 := ih l[i] (List.getElem_mem hil) (wfWL_mem hw (List.getElem_mem hil))
    refine Ev.step (f := fun k => (fastiref04_right.f k l[i].f0 l[i].f1 l[i].f2 l[i].f3 (d : Int)).bind fun t => if t = true then fastiref04_right.l0 k ((d + 1 : Nat) : Int) ((i + 1 : Nat) : Int) a b s l else some false) (fun k => ?_) (Ev.bind (f := fun k t => if t = true then fastiref04_right.l0 k ((d + 1 : Nat) : Int) ((i + 1 : Nat) : Int) a b s l else some false) h1 ?_)
    · rw [fastiref04_right.l0, if_pos (by omega), if_pos (by omega), rd_at hil, w1, w2]
    · rw [List.drop_eq_getElem_cons hil, List.all_cons]
      cases hk : okS d l[i] with
      | true =>
        simp only [if_true, Bool.true_and]
        exact ihe (i + 1) (by omega)
      | false => simpa using Ev.now false
theorem right_no (x1 : Int) (a b : Int) (s : ByteArray) (l : List S25) : Ev (fun k => fastiref04_right.j0 k x1 true a b s l) false :=
  Ev.step (f := fun _ => some false) (fun k => by rw [fastiref04_right.j0, if_pos rfl]) (Ev.now _)
theorem right_zero (x : S25) : Ev (fun k => fastiref04_right.f k x.f0 x.f1 x.f2 x.f3 ((0 : Nat) : Int)) false := by
  by_cases h1 : x.f0 = 1
  · exact Ev.step (f := fun _ => some false) (fun k => by rw [fastiref04_right.f, if_pos h1, if_neg (by decide)]) (Ev.now _)
  by_cases h2 : x.f0 = 2
  · exact Ev.step (f := fun _ => some false) (fun k => by rw [fastiref04_right.f, if_neg h1, if_pos h2, if_neg (by decide)]) (Ev.now _)
  by_cases h3 : x.f0 = 3
  · exact Ev.step (f := fun k => fastiref04_right.j0 k ((0 : Nat) : Int) true x.f0 x.f1 x.f2 x.f3) (fun k => by rw [fastiref04_right.f, if_neg h1, if_neg h2, if_pos h3, if_pos (by decide)]) (right_no _ _ _ _ _)
  · exact Ev.step (f := fun _ => some false) (fun k => by rw [fastiref04_right.f, if_neg h1, if_neg h2, if_neg h3]) (Ev.now _)
theorem right_any : ∀ (d : Nat), d ≤ 100 → ∀ x : S25, wfW x → Ev (fun k => fastiref04_right.f k x.f0 x.f1 x.f2 x.f3 (d : Int)) (okS d x)
  | 0, _, x, _ => right_zero x
  | d + 1, hd, ⟨k, n, s, l⟩, hx => by
    obtain ⟨hn0, hn1, hs, hl, hw⟩ := wfW_parts hx
    simp only at *
    rw [okS]
    by_cases h1 : k = 1
    · rw [if_pos h1]
      refine Ev.step (f := fun _ => some _) (fun k => ?_) (Ev.now _)
      rw [fastiref04_right.f, if_pos h1, if_pos (by omega)]
      by_cases hz : s.size = 0
      · rw [if_pos ((toList_nil_iff s).2 hz)]
        simp [hz]
        exact Bool.eq_iff_iff.2 (by simp)
      · rw [if_neg (fun h => hz ((toList_nil_iff s).1 h))]; simp [hz]
    · rw [if_neg h1]
      by_cases h2 : k = 2
      · rw [if_pos h2]
        refine Ev.step (f := fun _ => some _) (fun k => ?_) (Ev.now _)
        rw [fastiref04_right.f, if_neg h1, if_pos h2, if_pos (by omega)]
        by_cases hn : n = 0
        · rw [if_pos hn]
          by_cases hz : s.size ≤ 65535
          · rw [if_pos (by omega)]
            simp [hn, hz]
            exact Bool.eq_iff_iff.2 (by simp)
          · rw [if_neg (by omega)]; simp [hz]
        · rw [if_neg hn]; simp [hn]
      · rw [if_neg h2]
        by_cases h3 : k = 3
        · rw [if_pos h3]
          by_cases hn : n = 0
          · by_cases hz : s.size = 0
            · by_cases hll : l.length ≤ 4095
              · have h := right_loop d (by omega) hl (fun y hy hwy => right_any d (by omega) y hwy) hw k n s l.length 0 (by omega)
                rw [List.drop_zero] at h
                have e : (decide (n = 0) && (decide (s.size = 0) && (decide (l.length ≤ 4095) && l.all (okS d)))) = l.all (okS d) := by simp [hn, hz, hll]
                rw [e]
                refine Ev.step (f := fun k' => fastiref04_right.j0 k' ((d + 1 : Nat) : Int) false k n s l) (fun k' => ?_) (Ev.step (f := fun k' => fastiref04_right.l0 k' ((d + 1 : Nat) : Int) ((0 : Nat) : Int) k n s l) (fun k' => ?_) h)
                · rw [fastiref04_right.f, if_neg h1, if_neg h2, if_pos h3, if_neg (by omega), if_pos hn, if_pos ((toList_nil_iff s).2 hz), decide_eq_false (by omega)]
                · rw [fastiref04_right.j0, if_neg (by decide)]; rfl
              · have e : (decide (n = 0) && (decide (s.size = 0) && (decide (l.length ≤ 4095) && l.all (okS d)))) = false := by simp [hll]
                rw [e]
                refine Ev.step (f := fun k' => fastiref04_right.j0 k' ((d + 1 : Nat) : Int) true k n s l) (fun k' => ?_) (right_no _ _ _ _ _)
                rw [fastiref04_right.f, if_neg h1, if_neg h2, if_pos h3, if_neg (by omega), if_pos hn, if_pos ((toList_nil_iff s).2 hz), decide_eq_true (by omega)]
            · have e : (decide (n = 0) && (decide (s.size = 0) && (decide (l.length ≤ 4095) && l.all (okS d)))) = false := by simp [hz]
              rw [e]
              refine Ev.step (f := fun k' => fastiref04_right.j0 k' ((d + 1 : Nat) : Int) true k n s l) (fun k' => ?_) (right_no _ _ _ _ _)
              rw [fastiref04_right.f, if_neg h1, if_neg h2, if_pos h3, if_neg (by omega), if_pos hn, if_neg (fun h => hz ((toList_nil_iff s).1 h))]
          · have e : (decide (n = 0) && (decide (s.size = 0) && (decide (l.length ≤ 4095) && l.all (okS d)))) = false := by simp [hn]
            rw [e]
            refine Ev.step (f := fun k' => fastiref04_right.j0 k' ((d + 1 : Nat) : Int) true k n s l) (fun k' => ?_) (right_no _ _ _ _ _)
            rw [fastiref04_right.f, if_neg h1, if_neg h2, if_pos h3, if_neg (by omega), if_neg hn]
        · rw [if_neg h3]
          refine Ev.step (f := fun _ => some _) (fun k => ?_) (Ev.now _)
          rw [fastiref04_right.f, if_neg h1, if_neg h2, if_neg h3]
theorem Right_any (x : S25) (hx : wfW x) : Ev (fun k => fastiref04_Right.f k x.f0 x.f1 x.f2 x.f3) (okS 16 x) := by
  have h : Ev (fun k => fastiref04_right.f k x.f0 x.f1 x.f2 x.f3 16) (okS 16 x) := right_any 16 (by decide) x hx
  exact Ev.congr (fun k => by unfold fastiref04_Right.f; rfl) (Ev.bind (f := fun _ t => some t) h (Ev.now _))
/-- Bytes as a Go string. -/
def bstr (l : List UInt8) : ByteArray := ⟨l.toArray⟩
theorem bstr_size (l : List UInt8) : (bstr l).size = l.length := by simp [bstr, ByteArray.size]
theorem bstr_data (l : List UInt8) : (bstr l).data.toList = l := by simp [bstr]
theorem bstr_append (a b : List UInt8) : bstr a ++ bstr b = bstr (a ++ b) := by
  apply ByteArray.ext
  simp [bstr, ByteArray.data_append]
theorem bstr_of (s : ByteArray) : bstr s.data.toList = s := by simp [bstr]
theorem one_byte (n : Nat) (h : n < 256) : strOfNums [(n : Int)] = bstr [UInt8.ofNat n] := by
  unfold strOfNums bstr
  simp
theorem bytes_any : ∀ (m n : Nat), n < m → n < 9223372036854775808 → Ev (fun k => fastiref04_bytes.f k (n : Int)) (bstr (bes n))
  | 0, n, h, _ => by omega
  | m + 1, n, h, hb => by
    rcases Nat.eq_zero_or_pos n with rfl | h0
    · refine Ev.step (f := fun _ => some _) (fun k => ?_) (Ev.now _)
      rw [fastiref04_bytes.f, if_pos (by decide), bes_zero]; rfl
    · have ih := bytes_any m (n / 256) (by omega) (by omega)
      have w1 : wrap64 (Int.tdiv (n : Int) 256) = ((n / 256 : Nat) : Int) := by
        rw [Int.tdiv_eq_ediv_of_nonneg (by omega)]; unfold wrap64; omega
      have w2 : Int.tmod (n : Int) 256 % 256 = ((n % 256 : Nat) : Int) := by
        rw [Int.tmod_eq_emod_of_nonneg (by omega)]; omega
      have hl := bes_len8 (n := n / 256) (by omega)
      refine Ev.step (f := fun k => (fastiref04_bytes.f k ((n / 256 : Nat) : Int)).bind fun t => if t.size + (bstr [UInt8.ofNat (n % 256)]).size ≤ 9223372036854775807 then some (t ++ bstr [UInt8.ofNat (n % 256)]) else none) (fun k => ?_) (Ev.bind (f := fun _ t => if t.size + (bstr [UInt8.ofNat (n % 256)]).size ≤ 9223372036854775807 then some (t ++ bstr [UInt8.ofNat (n % 256)]) else none) ih ?_)
      · rw [fastiref04_bytes.f, if_neg (by omega), w1, w2]
        simp only [Option.bind_some]
        rw [one_byte _ (by omega)]
      · rw [bstr_size, bstr_size, if_pos (by simp; omega), bstr_append, ← bes_pos h0]
        exact Ev.now _
theorem head_any (k n : Nat) (hk : k < 15) (hn : n < 9223372036854775808) : Ev (fun j => fastiref04_head.f j ((k * 16 : Nat) : Int) (n : Int)) (bstr (headB k n)) := by
  have hl := bes_len8 (n := n) (by omega)
  have h := bytes_any (n + 1) n (by omega) hn
  have w1 : wrap64 (((k * 16 : Nat) : Int) + ((bstr (bes n)).size : Int)) % 256 = ((k * 16 + (bes n).length : Nat) : Int) := by rw [bstr_size]; unfold wrap64; omega
  refine Ev.congr (fun j => by unfold fastiref04_head.f; rfl) (Ev.bind h ?_)
  simp only [Option.bind_some]
  rw [w1, one_byte _ (by omega), bstr_size, bstr_size, if_pos (by simp; omega), bstr_append]
  exact Ev.now _
def PutsP (x : S25) : Prop := wfS x → parts x ≤ 1000000 → Ev (fun k => fastiref04_Puts.f k x.f0 x.f1 x.f2 x.f3) (bstr (encS x))
theorem partsL_at {l : List S25} {i : Nat} (h : i < l.length) : parts l[i] ≤ partsL l := by
  induction l generalizing i with
  | nil => simp at h
  | cons x xs ih =>
    rw [partsL]
    cases i with
    | zero => simp
    | succ i => have := ih (i := i) (by simpa using h); simp only [List.getElem_cons_succ]; omega
theorem puts_loop {l : List S25} (ih : ∀ y ∈ l, PutsP y) (hw : wfL l) (hp : partsL l ≤ 1000000) (hl : l.length ≤ 140737488355328) (a b : Int) (s : ByteArray) (ls : List UInt8) (hls : ls.length ≤ 9) :
    ∀ (d i : Nat), i + d = l.length → Ev (fun k => fastiref04_Puts.l0 k (bstr (ls ++ encL (l.take i))) (i : Int) a b s l) (bstr (ls ++ encL l)) := by
  have hE := encL_le (fun y _ => enc_le y) hw
  intro d
  induction d with
  | zero =>
    intro i hi
    refine Ev.step (f := fun _ => some _) (fun k => ?_) (Ev.now _)
    rw [fastiref04_Puts.l0, if_neg (by omega), List.take_of_length_le (by omega)]
  | succ d ihd =>
    intro i hi
    have hil : i < l.length := by omega
    have w2 : wrap64 ((i : Int) + 1) = ((i + 1 : Nat) : Int) := by unfold wrap64; omega
    have h1 := ih l[i] (List.getElem_mem hil) (wfL_mem hw (List.getElem_mem hil)) (by have := partsL_at hil; omega)
    have e1 : encL (l.take (i + 1)) = encL (l.take i) ++ encS l[i] := by rw [List.take_succ_eq_append_getElem hil, encL_snoc]
    have e2 := encL_take_le l (i + 1)
    refine Ev.step (f := fun k => (fastiref04_Puts.f k l[i].f0 l[i].f1 l[i].f2 l[i].f3).bind fun t => if (bstr (ls ++ encL (l.take i))).size + t.size ≤ 9223372036854775807 then fastiref04_Puts.l0 k (bstr (ls ++ encL (l.take i)) ++ t) ((i + 1 : Nat) : Int) a b s l else none) (fun k => ?_)
      (Ev.bind (f := fun k t => if (bstr (ls ++ encL (l.take i))).size + t.size ≤ 9223372036854775807 then fastiref04_Puts.l0 k (bstr (ls ++ encL (l.take i)) ++ t) ((i + 1 : Nat) : Int) a b s l else none) h1 ?_)
    · rw [fastiref04_Puts.l0, if_pos (by omega), if_pos (by omega), rd_at hil, w2]
    · rw [bstr_size, bstr_size]
      refine Ev.congr (fun k => if_pos (by rw [e1] at e2; simp only [List.length_append] at e2 ⊢; omega)) ?_
      rw [bstr_append, List.append_assoc, ← e1]
      exact ihd (i + 1) (by omega)
theorem Puts_any (x : S25) : PutsP x := by
  refine S25.ind (P := PutsP) (fun x ih => ?_) x
  intro hx hp
  obtain ⟨hn0, hn1, hs, hl, hw⟩ := wfS_parts hx
  obtain ⟨k, n, s, l⟩ := x
  rw [parts] at hp
  simp only at *
  rw [encS]
  by_cases h1 : k = 1
  · rw [if_pos h1]
    by_cases hn : n < 0
    · rw [if_pos hn]
      have w : wrap64 (-(wrap64 (n + 1))) = (((-(n + 1)).toNat : Nat) : Int) := by unfold wrap64; omega
      refine Ev.step (f := fun j => fastiref04_Puts.j0 j false k n s l) (fun j => by rw [fastiref04_Puts.f, if_pos h1, decide_eq_false (by omega)]) (Ev.step (f := fun j => (fastiref04_head.f j ((2 * 16 : Nat) : Int) (((-(n + 1)).toNat : Nat) : Int)).bind fun t => some t) (fun j => ?_) (Ev.bind (f := fun _ t => some t) (head_any 2 _ (by decide) (by omega)) (Ev.now _)))
      rw [fastiref04_Puts.j0, if_neg (by decide), if_pos h1, w]; rfl
    · rw [if_neg hn]
      refine Ev.step (f := fun j => fastiref04_Puts.j0 j true k n s l) (fun j => by rw [fastiref04_Puts.f, if_pos h1, decide_eq_true (by omega)]) (Ev.step (f := fun j => (fastiref04_head.f j ((1 * 16 : Nat) : Int) ((n.toNat : Nat) : Int)).bind fun t => some t) (fun j => ?_) (Ev.bind (f := fun _ t => some t) (head_any 1 _ (by decide) (by omega)) (Ev.now _)))
      rw [fastiref04_Puts.j0, if_pos rfl, Int.toNat_of_nonneg (by omega)]; rfl
  · rw [if_neg h1]
    by_cases h2 : k = 2
    · rw [if_pos h2]
      have hb := headB_len 3 s.size (by omega)
      refine Ev.step (f := fun j => fastiref04_Puts.j0 j false k n s l) (fun j => by rw [fastiref04_Puts.f, if_neg h1]) (Ev.step (f := fun j => (fastiref04_head.f j ((3 * 16 : Nat) : Int) ((s.size : Nat) : Int)).bind fun t => if t.size + s.size ≤ 9223372036854775807 then some (t ++ s) else none) (fun j => ?_)
        (Ev.bind (f := fun _ t => if t.size + s.size ≤ 9223372036854775807 then some (t ++ s) else none) (head_any 3 _ (by decide) (by omega)) ?_))
      · rw [fastiref04_Puts.j0, if_neg (by decide), if_neg h1, if_pos h2]; rfl
      · rw [bstr_size, if_pos (by omega), ← bstr_append, bstr_of]
        exact Ev.now _
    · rw [if_neg h2]
      have hb := headB_len 4 l.length (by omega)
      have h := puts_loop ih hw (by omega) hl k n s (headB 4 l.length) hb l.length 0 (by omega)
      rw [List.take_zero, encL, List.append_nil] at h
      refine Ev.step (f := fun j => fastiref04_Puts.j0 j false k n s l) (fun j => by rw [fastiref04_Puts.f, if_neg h1]) (Ev.step (f := fun j => (fastiref04_head.f j ((4 * 16 : Nat) : Int) ((l.length : Nat) : Int)).bind fun t => fastiref04_Puts.l0 j t ((0 : Nat) : Int) k n s l) (fun j => ?_)
        (Ev.bind (f := fun j t => fastiref04_Puts.l0 j t ((0 : Nat) : Int) k n s l) (head_any 4 _ (by decide) (by omega)) h))
      rw [fastiref04_Puts.j0, if_neg (by decide), if_neg h1, if_neg h2]; rfl
theorem putB_bstr (x : S25) : (bstr (putB (checkR x) x)) = if okS 16 x then bstr (encS x) else ⟨#[]⟩ := by
  unfold putB checkR
  cases okS 16 x <;> rfl
theorem Put_ev (x : S25) (hx : wfS x) (hp : parts x ≤ 1000000) : Ev (fun k => fastiref04_Put.f k x.f0 x.f1 x.f2 x.f3) (bstr (putB (checkR x) x), checkR x) := by
  refine Ev.congr (fun k => by unfold fastiref04_Put.f; rfl) (Ev.bind (f := fun k t => if t = true then ((fastiref04_Puts.f k x.f0 x.f1 x.f2 x.f3).bind fun t152 => (some (t152, 0))) else (some ((⟨#[]⟩ : ByteArray), 2))) (Right_any x (wfW_of x hx)) ?_)
  rw [putB_bstr]
  unfold checkR
  cases okS 16 x with
  | true => exact Ev.bind (f := fun _ t => some (t, 0)) (Puts_any x hx hp) (Ev.now _)
  | false => exact Ev.now _
theorem Put_ref (x : S25) (hx : wfS x) (hp : parts x ≤ 1000000) : ∃ k, fastiref04_Put.f k x.f0 x.f1 x.f2 x.f3 = some (bstr (putB (checkR x) x), checkR x) := (Put_ev x hx hp).rounds
theorem Check_ref (x : S25) (hx : wfW x) : ∃ k, fastiref04_Check.f k x.f0 x.f1 x.f2 x.f3 = some (checkR x) := by
  obtain ⟨k, hk⟩ := (Right_any x hx).rounds
  refine ⟨k, ?_⟩
  unfold fastiref04_Check.f
  rw [hk, Option.bind_some]
  unfold checkR
  split <;> rfl
theorem Size_ref (x : S25) (hx : wfS x) (hp : parts x ≤ 1000000) : ∃ k, fastiref04_Size.f k x.f0 x.f1 x.f2 x.f3 = some ((putB (checkR x) x).length : Int) := by
  obtain ⟨k, hk⟩ := Put_ref x hx hp
  refine ⟨k, ?_⟩
  unfold fastiref04_Size.f
  rw [hk, Option.bind_some, bstr_size]
end Go.Proofs.Ytjelpapcboiimaa.PCellPuts
