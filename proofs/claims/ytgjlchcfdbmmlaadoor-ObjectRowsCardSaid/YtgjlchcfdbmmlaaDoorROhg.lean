/- Texts of one proof, joined: TOI, TOJ. -/
import Derived.Test.YtgjlchcfdbmmlaaDoorROeg
import Derived.Test.YtgjlchcfdbmmlaaDoorROfg
import Derived.Test.YtgjlchcfdbmmlaaDoorRTag
import Derived.Handy
set_option linter.unusedSimpArgs false
set_option linter.unusedVariables false
/- object.formed, Check, Put, Id, PutRows walked. -/
namespace Go.Proofs.YtgjlchcfdbmmlaaDoor.PObjectTakes
open Go.RowKit Go.Proofs.YtgjlchcfdbmmlaaDoor.Ord Go.Proofs.YtgjlchcfdbmmlaaDoor.Obj Go.Proofs.YtgjlchcfdbmmlaaDoorW.PrintWords Go.Proofs.YtgjlchcfdbmmlaaDoorW.PrintLast Go.Proofs.YtgjlchcfdbmmlaaDoorW.PrintMore
set_option linter.unusedVariables false
set_option linter.unusedSimpArgs false
attribute [local irreducible] OpGives

/-- Is an object right? -/
def okOb (o : Ob) : Bool := if o.kind = 1 then okNode o else if o.kind = 2 then okCommit o else false
/-- What formed answers. -/
def formV (o : Ob) (a : Array Value) : Value := if okOb o then (if o.kind = 1 then .iface 86 (.agg a) else .iface 87 (.agg a)) else .nilIface
set_option maxHeartbeats 8000000 in
set_option maxRecDepth 100000 in
theorem formed_calls (o : Ob) (Ar : Option Addr) (cr : Nat) (Ak : Option Addr) (ck : Nat) (Ap : Option Addr) (cp : Nat) (w : World) (hO : ObAt w o Ar cr Ak ck Ap cp) (hT : Lib.Utf8Tabs 0 1 w) :
    Calls Tryd.prog 19 #[.agg (obV o Ar cr Ak ck Ap cp)] w fun e w' => e = .returned (formV o (obV o Ar cr Ak ck Ap cp)) ∧ Below w.heap.size w w' := by
  obtain ⟨W1, hW1⟩ : ∃ W1, W1 = w.alloc (.cells (obV o Ar cr Ak ck Ap cp) 27) := ⟨_, rfl⟩
  have hn1 : Below w.heap.size w W1 := by rw [hW1]; exact (Below.refl _ _).alloc (Nat.le_refl _) _
  have hg1 : W1.heap[w.heap.size]? = some (.cells (obV o Ar cr Ak ck Ap cp) 27 (0, 0)) := by rw [hW1]; exact alloc_lastV _ _
  unfold obV at hg1
  obtain ⟨⟨b0, b1, b2, b3⟩, b4, b5, b6, b7⟩ := box8 hg1
  have HNR := Lib.hid (nright_calls o Ar cr Ak ck Ap cp W1 (hO.below hn1) (Utf8Tabs_below hT hn1))
  have HCR := Lib.hid (cright_calls o Ar cr Ak ck Ap cp W1 (hO.below hn1))
  have HN1 := Lib.hid hn1
  unfold formV okOb
  unfold obV at hW1 HNR HCR ⊢
  rw [hW1] at b0 b1 b2 b3 b4 b5 b6 b7
  have HW1 := Lib.hid hW1
  generalize okNode o = rn at HNR ⊢
  generalize okCommit o = rc at HCR ⊢
  clear hW1 hn1 hg1 hO hT
  obtain ⟨knd, lab, rws, kds, prs, stp, nte, rot⟩ := o
  simp only at HNR HCR HW1 b0 b1 b2 b3 b4 b5 b6 b7 ⊢
  by_cases hk1 : knd = 1
  · subst hk1
    simp only [if_true]
    go_enter Tryd.func19, Tryd.ntmps19
    go_wp2_with fail
    rw [← HW1.out]
    refine HNR.out.mono ?_
    rintro e W2 ⟨rfl, hb2⟩
    have HF := Lib.hid (HN1.out.trans (hb2.mono HN1.out.size))
    clear hb2
    cases rn with
    | true =>
      go_wp2_with fail
      go_ret
      exact ⟨rfl, HF.out⟩
    | false =>
      go_wp2_with fail
      go_ret
      exact ⟨rfl, HF.out⟩
  · have hk1' : (knd == 1) = false := by simpa using hk1
    rw [if_neg hk1]
    by_cases hk2 : knd = 2
    · subst hk2
      simp only [if_true]
      clear hk1 hk1'
      go_enter Tryd.func19, Tryd.ntmps19
      go_wp2_with fail
      rw [← HW1.out]
      refine HCR.out.mono ?_
      rintro e W2 ⟨rfl, hb2⟩
      have HF := Lib.hid (HN1.out.trans (hb2.mono HN1.out.size))
      clear hb2
      cases rc with
      | true =>
        go_wp2_with fail
        go_ret
        exact ⟨rfl, HF.out⟩
      | false =>
        go_wp2_with fail
        go_ret
        exact ⟨rfl, HF.out⟩
    · have hk2' : (knd == 2) = false := by simpa using hk2
      rw [if_neg hk2]
      go_enter Tryd.func19, Tryd.ntmps19
      go_wp2_with fail
      rw [← HW1.out]
      go_ret
      exact ⟨rfl, HN1.out⟩
end Go.Proofs.YtgjlchcfdbmmlaaDoor.PObjectTakes
/- Plain laws: the cell of a right object is right, and not great. -/
namespace Go.Proofs.YtgjlchcfdbmmlaaDoor.PObjectTakes
open Go.RowKit Go.Proofs.YtgjlchcfdbmmlaaDoor.Ord Go.Proofs.YtgjlchcfdbmmlaaDoor.Obj Go.Proofs.YtgjlchcfdbmmlaaDoorW.PrintWords Go.Proofs.YtgjlchcfdbmmlaaDoorW.PrintLast Go.Proofs.YtgjlchcfdbmmlaaDoorW.PrintMore
set_option linter.unusedVariables false
set_option linter.unusedSimpArgs false

theorem okS_num (d : Nat) (n : Int) : okS (d + 1) (numC n) = true := by unfold numC; rw [okS, if_pos rfl]; rfl
theorem okS_text (d : Nat) {s : ByteArray} (h : s.size ≤ 65535) : okS (d + 1) (textC s) = true := by
  unfold textC; rw [okS, if_neg (by decide), if_pos rfl]; simp [h]
theorem okS_list (d : Nat) {l : List S42} (h : l.length ≤ 4095) (hl : ∀ y ∈ l, okS d y = true) : okS (d + 1) (listC l) = true := by
  unfold listC; rw [okS, if_neg (by decide), if_neg (by decide), if_pos rfl]
  simp only [decide_true, Bool.true_and, Bool.and_eq_true, decide_eq_true_eq]
  exact ⟨rfl, h, List.all_eq_true.2 hl⟩
theorem wfS_num {n : Int} (h0 : -9223372036854775808 ≤ n) (h1 : n ≤ 9223372036854775807) : wfS (numC n) := by unfold numC; rw [wfS, wfL]; exact ⟨h0, h1, by decide, by decide, trivial⟩
theorem wfS_text {s : ByteArray} (h : s.size ≤ 65535) : wfS (textC s) := by unfold textC; rw [wfS, wfL]; exact ⟨by decide, by decide, by omega, by decide, trivial⟩
theorem wfS_list {l : List S42} (h : l.length ≤ 4095) (hl : ∀ y ∈ l, wfS y) : wfS (listC l) := by unfold listC; rw [wfS]; exact ⟨by decide, by decide, by decide, by omega, wfL_of hl⟩
theorem parts_num (n : Int) : parts (numC n) = 1 := by unfold numC; rw [parts, partsL]; rfl
theorem parts_text {s : ByteArray} (h : s.size < 100) : parts (textC s) = 1 := by unfold textC; rw [parts, partsL]; omega
theorem parts_list (l : List S42) : parts (listC l) = 1 + partsL l := by unfold listC; rw [parts]; rfl
theorem partsL_le {n : Nat} : ∀ {l : List S42}, (∀ y ∈ l, parts y ≤ n) → partsL l ≤ l.length * n
  | [], _ => by rw [partsL]; omega
  | x :: xs, h => by
    rw [partsL, List.length_cons, Nat.add_mul, Nat.one_mul]
    have := partsL_le (fun y hy => h y (List.mem_cons_of_mem _ hy))
    have := h x List.mem_cons_self
    omega
/-- A cell that is right, in range, and of so many parts. -/
structure Fine (d n : Nat) (x : S42) : Prop where
  ok : okS d x = true
  wf : wfS x
  pt : parts x ≤ n
theorem fine_num (d : Nat) {n : Int} (h0 : -9223372036854775808 ≤ n) (h1 : n ≤ 9223372036854775807) : Fine (d + 1) 1 (numC n) := ⟨okS_num d n, wfS_num h0 h1, by rw [parts_num]; exact Nat.le_refl _⟩
theorem fine_text (d : Nat) {s : ByteArray} (h : s.size < 100) : Fine (d + 1) 1 (textC s) := ⟨okS_text d (by omega), wfS_text (by omega), by rw [parts_text h]; exact Nat.le_refl _⟩
theorem fine_list (d : Nat) {n : Nat} {l : List S42} (h : l.length ≤ 4095) (hl : ∀ y ∈ l, Fine d n y) : Fine (d + 1) (1 + l.length * n) (listC l) :=
  ⟨okS_list d h (fun y hy => (hl y hy).ok), wfS_list h (fun y hy => (hl y hy).wf), by rw [parts_list]; have := partsL_le (fun y hy => (hl y hy).pt); omega⟩
theorem Fine.mono {d n m : Nat} {x : S42} (h : Fine d n x) (hm : n ≤ m) : Fine d m x := ⟨h.ok, h.wf, Nat.le_trans h.pt hm⟩
/-- Numbers within their kinds. -/
structure wfOb (o : Ob) : Prop where
  stamp : -9223372036854775808 ≤ o.stamp ∧ o.stamp ≤ 9223372036854775807
  rows : ∀ x ∈ o.rows, (-9223372036854775808 ≤ x.f0 ∧ x.f0 ≤ 9223372036854775807) ∧ (-9223372036854775808 ≤ x.f1 ∧ x.f1 ≤ 9223372036854775807) ∧ -9223372036854775808 ≤ x.f2.f1 ∧ x.f2.f1 ≤ 9223372036854775807
  kids : ∀ x ∈ o.kids, 0 ≤ x.f0 ∧ x.f0 ≤ 255
theorem okV_size {v : S53} (h : okV v = true) : v.f2.size ≤ 40 ∧ (v.f0 = 1 ∨ v.f0 = 2) ∧ (v.f0 = 1 → v.f2.size = 0) ∧ (v.f0 = 2 → v.f1 = 0) := by
  unfold okV at h
  split at h
  · rename_i h1
    have h2 : v.f2.size = 0 := of_decide_eq_true h
    exact ⟨by omega, .inl h1, fun _ => h2, fun h3 => by omega⟩
  · split at h
    · rename_i h1 h2
      simp only [Bool.and_eq_true, decide_eq_true_eq] at h
      exact ⟨h.2.1, .inr h2, fun h3 => by omega, fun _ => h.1⟩
    · cases h
theorem rowsFrom_mem : ∀ {l : List S55} {p : Option S55}, rowsFrom p l = true → ∀ x ∈ l, isS x.f0 x.f1 = true ∧ okV x.f2 = true
  | [], _, _, x, hx => by cases hx
  | y :: ys, p, h, x, hx => by
    rw [rowsFrom] at h
    simp only [Bool.and_eq_true] at h
    rcases List.mem_cons.1 hx with rfl | hx
    · exact ⟨h.1.1, h.1.2⟩
    · exact rowsFrom_mem h.2.2 x hx
theorem isS_parts {a b : Int} (h : isS a b = true) : 0 ≤ a ∧ a < b ∧ b ≤ 1099511627776 := by
  unfold isS at h
  simpa [Bool.and_eq_true, decide_eq_true_eq, and_assoc] using h
theorem okRows_parts {l : List S55} (h : okRows l = true) : l.length ≤ 64 ∧ ∀ x ∈ l, isS x.f0 x.f1 = true ∧ okV x.f2 = true := by
  unfold okRows at h
  simp only [Bool.and_eq_true, decide_eq_true_eq] at h
  exact ⟨h.1, rowsFrom_mem h.2⟩
theorem fine_val (d : Nat) {v : S53} (h : okV v = true) (h0 : -9223372036854775808 ≤ v.f1) (h1 : v.f1 ≤ 9223372036854775807) : Fine (d + 1) 1 (valC v) := by
  obtain ⟨hs, _⟩ := okV_size h
  unfold valC
  split
  · exact fine_text d (by omega)
  · exact fine_num d h0 h1
theorem fine_row (d : Nat) {x : S55} (h : isS x.f0 x.f1 = true ∧ okV x.f2 = true) (hw : -9223372036854775808 ≤ x.f2.f1 ∧ x.f2.f1 ≤ 9223372036854775807) : Fine (d + 2) 4 (rowC x) := by
  obtain ⟨a, b, c⟩ := isS_parts h.1
  refine (fine_list (n := 1) (d + 1) (by simp) (fun y hy => ?_)).mono (by simp)
  simp only [List.mem_cons, List.not_mem_nil, or_false] at hy
  rcases hy with rfl | rfl | rfl
  · exact fine_num d (by omega) (by omega)
  · exact fine_num d (by omega) (by omega)
  · exact fine_val d h.2 hw.1 hw.2
theorem fine_rows (d : Nat) {l : List S55} (h : okRows l = true) (hw : ∀ x ∈ l, -9223372036854775808 ≤ x.f2.f1 ∧ x.f2.f1 ≤ 9223372036854775807) : Fine (d + 3) 257 (rowsC l) := by
  obtain ⟨hl, hx⟩ := okRows_parts h
  refine (fine_list (n := 4) (d + 2) (by rw [List.length_map]; omega) (fun y hy => ?_)).mono (by rw [List.length_map]; omega)
  obtain ⟨x, hm, rfl⟩ := List.mem_map.1 hy
  exact fine_row d (hx x hm) (hw x hm)
theorem kids_some : ∀ {l : List S60} {q : S60}, kidsFrom (some q) l = true → (∀ x ∈ l, x.f0 ≤ 255) → 0 ≤ q.f0 → q.f0 ≤ 255 → (l.length : Int) + q.f0 ≤ 255
  | [], q, _, _, h0, h1 => by simp only [List.length_nil]; omega
  | y :: ys, q, h, hb, h0, h1 => by
    rw [kidsFrom] at h
    simp only [Bool.and_eq_true] at h
    have hq : q.f0 < y.f0 := of_decide_eq_true h.2.1
    have := kids_some h.2.2 (fun x hx => hb x (List.mem_cons_of_mem _ hx)) (by omega) (hb y List.mem_cons_self)
    rw [List.length_cons]
    omega
theorem kids_len {l : List S60} (h : kidsFrom none l = true) (hb : ∀ x ∈ l, 0 ≤ x.f0 ∧ x.f0 ≤ 255) : l.length ≤ 256 := by
  cases l with
  | nil => simp
  | cons y ys =>
    rw [kidsFrom] at h
    simp only [Bool.and_eq_true] at h
    have h0 := hb y List.mem_cons_self
    have := kids_some h.2.2 (fun x hx => (hb x (List.mem_cons_of_mem _ hx)).2) h0.1 h0.2
    rw [List.length_cons]
    omega
theorem kids_mem : ∀ {l : List S60} {p : Option S60}, kidsFrom p l = true → ∀ x ∈ l, x.f1.size = 32
  | [], _, _, x, hx => by cases hx
  | y :: ys, p, h, x, hx => by
    rw [kidsFrom] at h
    simp only [Bool.and_eq_true, decide_eq_true_eq] at h
    rcases List.mem_cons.1 hx with rfl | hx
    · exact h.1
    · exact kids_mem h.2.2 x hx
structure NodeP (o : Ob) : Prop where
  par : o.parents = []
  stamp : o.stamp = 0
  note : o.note = ⟨#[]⟩
  root : o.root = ⟨#[]⟩
  label : o.label.size ≤ 24
  rows : okRows o.rows = true
  kids : kidsFrom none o.kids = true
theorem okNode_parts {o : Ob} (h : okNode o = true) : NodeP o := by
  unfold okNode at h
  simp only [Bool.and_eq_true, decide_eq_true_eq] at h
  obtain ⟨h1, h2, h3, h4, h5, h6, h7⟩ := h
  exact ⟨List.eq_nil_of_length_eq_zero h1, h2, empty_str h3, empty_str h4, h5, h6, h7⟩
structure CommitP (o : Ob) : Prop where
  rows : o.rows = []
  kids : o.kids = []
  label : o.label = ⟨#[]⟩
  stamp : 0 ≤ o.stamp ∧ o.stamp ≤ 1099511627776
  note : o.note.size ≤ 40
  root : o.root.size = 32
  len : o.parents.length ≤ 2
  wide : ∀ x ∈ o.parents, x.size = 32
theorem okCommit_parts {o : Ob} (h : okCommit o = true) : CommitP o := by
  unfold okCommit at h
  simp only [Bool.and_eq_true, decide_eq_true_eq, Bool.not_eq_true'] at h
  obtain ⟨h1, h2, h3, h4, h5, h6, h7, h8, h9, _⟩ := h
  refine ⟨List.eq_nil_of_length_eq_zero h1, List.eq_nil_of_length_eq_zero h2, empty_str h3, ⟨h4, h5⟩, h6, h7, h8, fun x hx => ?_⟩
  rw [List.any_eq_false] at h9
  have := h9 x hx
  unfold wideB at this
  simpa using this
def cellOf (o : Ob) : S42 := if o.kind = 1 then nodeC o else commitC o
theorem fine_node {o : Ob} (h : okNode o = true) (hw : wfOb o) : Fine 16 5000 (nodeC o) := by
  have p := okNode_parts h
  have hk := kids_len p.kids hw.kids
  have h1 : Fine 15 1 (numC 1) := fine_num 14 (by decide) (by decide)
  have h2 : Fine 15 1 (textC o.label) := fine_text 14 (by have := p.label; omega)
  have h3 : Fine 15 257 (rowsC o.rows) := fine_rows 12 p.rows (fun x hx => (hw.rows x hx).2.2)
  have h4 : Fine 15 769 (listC (o.kids.map kidC)) := by
    refine (fine_list (n := 3) 14 (by rw [List.length_map]; omega) (fun y hy => ?_)).mono (by rw [List.length_map]; omega)
    obtain ⟨x, hm, rfl⟩ := List.mem_map.1 hy
    have hx := hw.kids x hm
    have hs := kids_mem p.kids x hm
    refine (fine_list (n := 1) 13 (by simp) (fun z hz => ?_)).mono (by simp)
    simp only [List.mem_cons, List.not_mem_nil, or_false] at hz
    rcases hz with rfl | rfl
    · exact fine_num 12 (by omega) (by omega)
    · exact fine_text 12 (by omega)
  refine (fine_list (n := 769) 15 (by simp) (fun y hy => ?_)).mono (by simp)
  simp only [List.mem_cons, List.not_mem_nil, or_false] at hy
  rcases hy with rfl | rfl | rfl | rfl
  · exact h1.mono (by omega)
  · exact h2.mono (by omega)
  · exact h3.mono (by omega)
  · exact h4
theorem fine_commit {o : Ob} (h : okCommit o = true) : Fine 16 5000 (commitC o) := by
  have p := okCommit_parts h
  refine (fine_list (n := 3) 15 (by simp) (fun y hy => ?_)).mono (by simp)
  simp only [List.mem_cons, List.not_mem_nil, or_false] at hy
  rcases hy with rfl | rfl | rfl | rfl | rfl
  · exact (fine_num 14 (by decide) (by decide)).mono (by omega)
  · refine (fine_list (n := 1) 14 (by rw [List.length_map]; have := p.len; omega) (fun z hz => ?_)).mono (by rw [List.length_map]; have := p.len; omega)
    obtain ⟨x, hm, rfl⟩ := List.mem_map.1 hz
    exact fine_text 13 (by have := p.wide x hm; omega)
  · exact (fine_num 14 (by have := p.stamp; omega) (by have := p.stamp; omega)).mono (by omega)
  · exact (fine_text 14 (by have := p.note; omega)).mono (by omega)
  · exact (fine_text 14 (by have := p.root; omega)).mono (by omega)
theorem fine_ob {o : Ob} (h : okOb o = true) (hw : wfOb o) : Fine 16 5000 (cellOf o) := by
  unfold okOb at h
  unfold cellOf
  split at h
  · rename_i h1; rw [if_pos h1]; exact fine_node h hw
  · rename_i h1
    rw [if_neg h1]
    split at h
    · exact fine_commit h
    · cases h
theorem Fine.enc {x : S42} (h : Fine 16 5000 x) : (encS x).length ≤ 600000 := by
  have := enc_le x h.wf
  have := h.pt
  omega
theorem Fine.check {x : S42} (h : Fine 16 5000 x) : ∃ k, cell_Check.f k x.f0 x.f1 x.f2 x.f3 = some 0 := by
  obtain ⟨k, hk⟩ := Check_any x (wfW_of x h.wf)
  unfold checkR at hk
  rw [h.ok] at hk
  exact ⟨k, hk⟩
end Go.Proofs.YtgjlchcfdbmmlaaDoor.PObjectTakes
