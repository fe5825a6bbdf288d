/- Texts of one proof, joined: TQ, TO1, TOL, TOM. -/
import Derived.Test.YtgjlchcfdbmmlaaDoorRTag
import Derived.Test.YtgjlchcfdbmmlaaDoorRXg
import Derived.Test.YtgjlchcfdbmmlaaDoorROeg
set_option linter.unusedSimpArgs false
set_option linter.unusedVariables false
/- A cell is the same as itself. -/
namespace Go.Proofs.YtgjlchcfdbmmlaaDoor.PObjectTakes
open Go.RowKit Go.Proofs.YtgjlchcfdbmmlaaDoorW.PrintWords Go.Proofs.YtgjlchcfdbmmlaaDoorW.PrintLast Go.Proofs.YtgjlchcfdbmmlaaDoorW.PrintMore
set_option linter.unusedVariables false
set_option linter.unusedSimpArgs false

theorem wf_int {n : Int} (h : (Lit.int .i64 n).wf = true) : -9223372036854775808 ≤ n ∧ n ≤ 9223372036854775807 := by
  simp only [Lit.wf, Bool.and_eq_true, decide_eq_true_eq] at h
  exact ⟨Int.le_trans (by decide) h.1, Int.le_trans h.2 (by decide)⟩
theorem S42.ind {P : S42 → Prop} (h : ∀ x : S42, (∀ y ∈ x.f3, P y) → P x) (x : S42) : P x := by
  have : ∀ m, ∀ x : S42, SizeOf.sizeOf x < m → P x := by
    intro m
    induction m with
    | zero => intro x hx; omega
    | succ m ih =>
      intro x hx
      refine h x (fun y hy => ih y ?_)
      obtain ⟨k, n, s, l⟩ := x
      have := List.sizeOf_lt_of_mem hy
      simp at hx this ⊢; omega
  exact this _ x (Nat.lt_succ_self _)
theorem wfS_parts {x : S42} (h : wfS x) : -9223372036854775808 ≤ x.f1 ∧ x.f1 ≤ 9223372036854775807 ∧ x.f2.size ≤ 140737488355328 ∧ x.f3.length ≤ 140737488355328 ∧ wfL x.f3 := by
  obtain ⟨k, n, s, l⟩ := x
  rw [wfS] at h; exact h
theorem wfL_mem {l : List S42} (h : wfL l) {y : S42} (hy : y ∈ l) : wfS y := by
  obtain ⟨i, hi⟩ := List.getElem?_of_mem hy
  exact wfL_at h hi
theorem rd_at {l : List S42} {i : Nat} (h : i < l.length) : rd_T42 l (i : Int) = l[i] := by
  unfold rd_T42; rw [Int.toNat_natCast, List.getD_eq_getElem?_getD, List.getElem?_eq_getElem h]; rfl
theorem toList_nil_iff (s : ByteArray) : s.toList = [] ↔ s.size = 0 := by
  rw [Lib.toList_data, Lib.size_eq]; exact List.length_eq_zero_iff.symm
mutual
/-- Its numbers are of their kind, however great its texts and lists. -/
def wfW : S42 → Prop
  | ⟨k, n, s, l⟩ => -9223372036854775808 ≤ n ∧ n ≤ 9223372036854775807 ∧ s.size ≤ 9223372036854775807 ∧ l.length ≤ 9223372036854775807 ∧ wfWL l
def wfWL : List S42 → Prop
  | [] => True
  | x :: xs => wfW x ∧ wfWL xs
end
theorem wfW_parts {x : S42} (h : wfW x) : -9223372036854775808 ≤ x.f1 ∧ x.f1 ≤ 9223372036854775807 ∧ x.f2.size ≤ 9223372036854775807 ∧ x.f3.length ≤ 9223372036854775807 ∧ wfWL x.f3 := by
  obtain ⟨k, n, s, l⟩ := x
  rw [wfW] at h; exact h
theorem wfWL_mem : ∀ {l : List S42}, wfWL l → ∀ {y : S42}, y ∈ l → wfW y
  | [], _, y, h => by simp at h
  | x :: xs, hw, y, h => by
    rw [wfWL] at hw
    rcases List.mem_cons.1 h with rfl | h
    · exact hw.1
    · exact wfWL_mem hw.2 h
theorem wfWL_of : ∀ {l : List S42}, (∀ y ∈ l, wfW y) → wfWL l
  | [], _ => by rw [wfWL]; trivial
  | x :: xs, h => by rw [wfWL]; exact ⟨h x List.mem_cons_self, wfWL_of (fun y hy => h y (List.mem_cons_of_mem _ hy))⟩
theorem wfL_of : ∀ {l : List S42}, (∀ y ∈ l, wfS y) → wfL l
  | [], _ => by rw [wfL]; trivial
  | x :: xs, h => by rw [wfL]; exact ⟨h x List.mem_cons_self, wfL_of (fun y hy => h y (List.mem_cons_of_mem _ hy))⟩
theorem wfW_of (x : S42) : wfS x → wfW x := by
  refine S42.ind (P := fun x => wfS x → wfW x) (fun x ih => ?_) x
  intro h
  obtain ⟨hn0, hn1, hs, hl, hw⟩ := wfS_parts h
  obtain ⟨k, n, s, l⟩ := x
  rw [wfW]
  exact ⟨hn0, hn1, by simp only at hs; omega, by simp only at hl; omega, wfWL_of (fun y hy => ih y hy (wfL_mem hw hy))⟩
/-- Is a cell right, so deep at most? -/
def okS : Nat → S42 → Bool
  | 0, _ => false
  | d + 1, ⟨k, n, s, l⟩ => if k = 1 then decide (s.size = 0) && decide (l.length = 0) else if k = 2 then decide (n = 0) && (decide (l.length = 0) && decide (s.size ≤ 65535)) else if k = 3 then decide (n = 0) && (decide (s.size = 0) && (decide (l.length ≤ 4095) && l.all (okS d))) else false
end Go.Proofs.YtgjlchcfdbmmlaaDoor.PObjectTakes
/- Cells: how many, how deep; check is okS. -/
namespace Go.Proofs.YtgjlchcfdbmmlaaDoor.PObjectTakes
open Go.RowKit Go.Proofs.YtgjlchcfdbmmlaaDoorW.PrintWords Go.Proofs.YtgjlchcfdbmmlaaDoorW.PrintLast Go.Proofs.YtgjlchcfdbmmlaaDoorW.PrintMore
set_option linter.unusedVariables false
set_option linter.unusedSimpArgs false

mutual
/-- What 'few' counts. -/
def parts : S42 → Nat
  | ⟨_, _, s, l⟩ => 1 + s.size / 100 + partsL l
def partsL : List S42 → Nat
  | [] => 0
  | x :: xs => parts x + partsL xs
end
theorem parts_eq (x : S42) : parts x = 1 + x.f2.size / 100 + partsL x.f3 := by cases x; rw [parts]
theorem partsL_mem {l : List S42} {y : S42} (h : y ∈ l) : parts y ≤ partsL l := by
  induction l with
  | nil => simp at h
  | cons x xs ih =>
    rw [partsL]
    rcases List.mem_cons.1 h with rfl | h
    · omega
    · have := ih h; omega
theorem partsL_len (l : List S42) : l.length ≤ partsL l := by
  induction l with
  | nil => simp
  | cons x xs ih => rw [partsL, List.length_cons, parts_eq]; omega
/-- A cell of few parts has few bytes. -/
def EncLe (x : S42) : Prop := wfS x → (encS x).length ≤ 109 * parts x
theorem encL_le {l : List S42} (ih : ∀ y ∈ l, EncLe y) (hw : wfL l) : (encL l).length ≤ 109 * partsL l ∧ l.length ≤ partsL l := by
  induction l with
  | nil => rw [encL, partsL]; simp
  | cons x xs ihx =>
    rw [wfL] at hw
    obtain ⟨e1, e2⟩ := ihx (fun y hy => ih y (List.mem_cons_of_mem _ hy)) hw.2
    have e3 := ih x (List.mem_cons_self) hw.1
    have e4 : 1 ≤ parts x := by rw [parts_eq]; omega
    rw [encL, partsL, List.length_append, List.length_cons]
    omega
theorem enc_le (x : S42) : EncLe x := by
  refine S42.ind (P := EncLe) (fun x ih => ?_) x
  intro hx
  obtain ⟨hn0, hn1, hs, hl, hw⟩ := wfS_parts hx
  obtain ⟨e1, e2⟩ := encL_le ih hw
  rw [parts_eq]
  obtain ⟨k, n, s, l⟩ := x
  simp only at *
  rw [encS]
  have hb : ∀ k m, m < 18446744073709551616 → (headB k m).length ≤ 9 := headB_len
  split
  · split
    · have := hb 2 (-(n + 1)).toNat (by omega); omega
    · have := hb 1 n.toNat (by omega); omega
  · split
    · have := hb 3 s.size (by omega)
      rw [List.length_append, ← Lib.size_eq]; omega
    · have := hb 4 l.length (by omega)
      rw [List.length_append]; omega
theorem check_loop {l : List S42} (d : Nat) (hd : d ≤ 100) (hl : l.length ≤ 9223372036854775807) (ih : ∀ y ∈ l, wfW y → Ev (fun k => cell_check.f k y.f0 y.f1 y.f2 y.f3 (d : Int)) (okS d y)) (hw : wfWL l) (a b : Int) (s : ByteArray) :
    ∀ (e i : Nat), i + e = l.length → Ev (fun k => cell_check.l0 k ((d + 1 : Nat) : Int) l (l.length : Int) (i : Int) a b s l) (decide (b = 0) && (decide (s.size = 0) && (decide (l.length ≤ 4095) && (l.drop i).all (okS d)))) := by
  intro e
  induction e with
  | zero =>
    intro i hi
    refine Ev.step (f := fun _ => some _) (fun k => ?_) (Ev.now _)
    rw [cell_check.l0, if_neg (by omega), List.drop_eq_nil_of_le (by omega)]
    by_cases hb : b = 0
    · rw [if_pos hb]
      by_cases hs : s.size = 0
      · rw [if_pos ((toList_nil_iff s).2 hs)]
        simp [hb, hs]
        omega
      · rw [if_neg (fun h => hs ((toList_nil_iff s).1 h))]
        simp [hs]
    · rw [if_neg hb]; simp [hb]
  | succ e ihe =>
    intro i hi
    have hil : i < l.length := by omega
    have w1 : wrap64 (((d + 1 : Nat) : Int) - 1) = (d : Int) := by unfold wrap64; omega
    have w2 : wrap64 ((i : Int) + 1) = ((i + 1 : Nat) : Int) := by unfold wrap64; omega
    have h1 := ih l[i] (List.getElem_mem hil) (wfWL_mem hw (List.getElem_mem hil))
    refine Ev.step (f := fun k => (cell_check.f k l[i].f0 l[i].f1 l[i].f2 l[i].f3 (d : Int)).bind fun t => if t = true then cell_check.l0 k ((d + 1 : Nat) : Int) l (l.length : Int) ((i + 1 : Nat) : Int) a b s l else some false) (fun k => ?_) (Ev.bind (f := fun k t => if t = true then cell_check.l0 k ((d + 1 : Nat) : Int) l (l.length : Int) ((i + 1 : Nat) : Int) a b s l else some false) h1 ?_)
    · rw [cell_check.l0, if_pos (by omega), if_pos (by omega), if_pos (by omega), rd_at hil, w1, w2]
    · rw [List.drop_eq_getElem_cons hil, List.all_cons]
      cases hk : okS d l[i] with
      | true =>
        simp only [if_true, Bool.true_and]
        exact ihe (i + 1) (by omega)
      | false => simpa using Ev.now false
theorem check_any : ∀ (d : Nat), d ≤ 100 → ∀ x : S42, wfW x → Ev (fun k => cell_check.f k x.f0 x.f1 x.f2 x.f3 (d : Int)) (okS d x)
  | 0, _, x, _ => Ev.step (f := fun _ => some false) (fun k => by rw [cell_check.f, if_pos (by decide)]) (Ev.now _)
  | d + 1, hd, ⟨k, n, s, l⟩, hx => by
    obtain ⟨hn0, hn1, hs, hl, hw⟩ := wfW_parts hx
    simp only at *
    rw [okS]
    by_cases h1 : k = 1
    · rw [if_pos h1]
      refine Ev.step (f := fun _ => some _) (fun k => ?_) (Ev.now _)
      rw [cell_check.f, if_neg (by omega), if_pos h1]
      by_cases hz : s.size = 0
      · rw [if_pos ((toList_nil_iff s).2 hz)]
        simp [hz]
        exact Bool.eq_iff_iff.2 (by simp)
      · rw [if_neg (fun h => hz ((toList_nil_iff s).1 h))]; simp [hz]
    · rw [if_neg h1]
      by_cases h2 : k = 2
      · rw [if_pos h2]
        refine Ev.step (f := fun _ => some _) (fun k => ?_) (Ev.now _)
        rw [cell_check.f, if_neg (by omega), if_neg h1, if_pos h2]
        by_cases hn : n = 0
        · rw [if_pos hn]
          by_cases hz : l.length = 0
          · rw [if_pos (by omega)]
            simp [hn, hz]
            omega
          · rw [if_neg (by omega)]; simp [hz]
        · rw [if_neg hn]; simp [hn]
      · rw [if_neg h2]
        by_cases h3 : k = 3
        · rw [if_pos h3]
          have h := check_loop d (by omega) hl (fun y hy hwy => check_any d (by omega) y hwy) hw k n s l.length 0 (by omega)
          rw [List.drop_zero] at h
          refine Ev.step (f := fun k' => cell_check.l0 k' ((d + 1 : Nat) : Int) l (l.length : Int) ((0 : Nat) : Int) k n s l) (fun k' => ?_) h
          rw [cell_check.f, if_neg (by omega), if_neg h1, if_neg h2, if_pos h3]; rfl
        · rw [if_neg h3]
          refine Ev.step (f := fun _ => some _) (fun k => ?_) (Ev.now _)
          rw [cell_check.f, if_neg (by omega), if_neg h1, if_neg h2, if_neg h3]
/-- What Check answers. -/
def checkR (x : S42) : Int := if okS 16 x then 0 else 2
theorem Check_any (x : S42) (hx : wfW x) : ∃ k, cell_Check.f k x.f0 x.f1 x.f2 x.f3 = some (checkR x) := by
  obtain ⟨k, hk⟩ := (check_any 16 (by decide) x hx).rounds
  refine ⟨k, ?_⟩
  unfold cell_Check.f
  have hk' : cell_check.f k x.f0 x.f1 x.f2 x.f3 16 = some (okS 16 x) := hk
  rw [hk', Option.bind_some]
  unfold checkR
  split <;> rfl
end Go.Proofs.YtgjlchcfdbmmlaaDoor.PObjectTakes
/- object.plain walked: what a cell is. -/
namespace Go.Proofs.YtgjlchcfdbmmlaaDoor.PObjectTakes
open Go.RowKit Go.Proofs.YtgjlchcfdbmmlaaDoor.Ord Go.Proofs.YtgjlchcfdbmmlaaDoor.Obj Go.Proofs.YtgjlchcfdbmmlaaDoorW.PrintWords Go.Proofs.YtgjlchcfdbmmlaaDoorW.PrintLast Go.Proofs.YtgjlchcfdbmmlaaDoorW.PrintMore
set_option linter.unusedVariables false
set_option linter.unusedSimpArgs false
attribute [local irreducible] OpGives

/-- What a cell is: a number, a text, or a row of such. -/
def anyK (d : Kd S42) : Kd S42 where
  sz := 1
  E := 69 :: d.E
  K := fun w x cs => (x.f0 = 1 ∧ cs = [.iface 3 (.int .i64 x.f1)]) ∨ (x.f0 = 2 ∧ cs = [.iface 9 (.string x.f2)]) ∨ (x.f0 ≠ 1 ∧ x.f0 ≠ 2 ∧ ∃ A c, cs = [.iface 99 (.slice A x.f3.length c)] ∧ x.f3.length ≤ c ∧ d.C w A x.f3.length x.f3)
  M := fun w base ok x cs => (x.f0 = 1 ∧ cs = [.iface 3 (.int .i64 x.f1)]) ∨ (x.f0 = 2 ∧ cs = [.iface 9 (.string x.f2)]) ∨ (x.f0 ≠ 1 ∧ x.f0 ≠ 2 ∧ ∃ v, cs = [.iface 99 v] ∧ d.R 69 w base ok v x.f3)
  K_len := by
    rintro w x cs (⟨_, rfl⟩ | ⟨_, rfl⟩ | ⟨_, _, A, c, rfl, _⟩) <;> rfl
  K_one := by
    rintro w x cs (⟨_, rfl⟩ | ⟨_, rfl⟩ | ⟨_, _, A, c, rfl, _⟩) u hu <;> (rw [List.mem_singleton.1 hu]; rfl)
  K_below := by
    rintro w w1 x cs hb (⟨h, rfl⟩ | ⟨h, rfl⟩ | ⟨h1, h2, A, c, rfl, hl, hr⟩)
    · exact .inl ⟨h, rfl⟩
    · exact .inr (.inl ⟨h, rfl⟩)
    · exact .inr (.inr ⟨h1, h2, A, c, rfl, hl, Kd.C_below hr hb⟩)
  K_of_M := by
    rintro w base ok x cs (⟨h, rfl⟩ | ⟨h, rfl⟩ | ⟨h1, h2, v, rfl, hr⟩)
    · exact .inl ⟨h, rfl⟩
    · exact .inr (.inl ⟨h, rfl⟩)
    · obtain ⟨A, c, rfl, hl, hr⟩ := Kd.R_reads hr
      exact .inr (.inr ⟨h1, h2, A, c, rfl, hl, hr⟩)
  M_mono := by
    rintro w base ok ok' x cs hok (⟨h, rfl⟩ | ⟨h, rfl⟩ | ⟨h1, h2, v, rfl, hr⟩)
    · exact .inl ⟨h, rfl⟩
    · exact .inr (.inl ⟨h, rfl⟩)
    · exact .inr (.inr ⟨h1, h2, v, rfl, Kd.R_mono hr hok⟩)
  M_bound := by
    rintro w base ok x cs (⟨h, rfl⟩ | ⟨h, rfl⟩ | ⟨h1, h2, v, rfl, hr⟩)
    · exact .inl ⟨h, rfl⟩
    · exact .inr (.inl ⟨h, rfl⟩)
    · exact .inr (.inr ⟨h1, h2, v, rfl, Kd.R_bound hr⟩)
  M_move := by
    rintro w w1 base ok x cs hm (⟨h, rfl⟩ | ⟨h, rfl⟩ | ⟨h1, h2, v, rfl, hr⟩)
    · exact .inl ⟨h, rfl⟩
    · exact .inr (.inl ⟨h, rfl⟩)
    · exact .inr (.inr ⟨h1, h2, v, rfl, Kd.R_move hr hm⟩)
  M_lower := by
    rintro w base base' ok x cs hb (⟨h, rfl⟩ | ⟨h, rfl⟩ | ⟨h1, h2, v, rfl, hr⟩)
    · exact .inl ⟨h, rfl⟩
    · exact .inr (.inl ⟨h, rfl⟩)
    · exact .inr (.inr ⟨h1, h2, v, rfl, Kd.R_lower hr hb⟩)
theorem anyK_mono : Kd.Mono anyK := by
  refine ⟨fun _ _ _ => rfl, ?_, ?_⟩
  · rintro d d' hs h w x cs (⟨h1, rfl⟩ | ⟨h1, rfl⟩ | ⟨h1, h2, A, c, rfl, hl, hr⟩)
    · exact .inl ⟨h1, rfl⟩
    · exact .inr (.inl ⟨h1, rfl⟩)
    · exact .inr (.inr ⟨h1, h2, A, c, rfl, hl, Kd.C_imp hs h hr⟩)
  · rintro d d' hs h w base ok x cs (⟨h1, rfl⟩ | ⟨h1, rfl⟩ | ⟨h1, h2, v, rfl, hr⟩)
    · exact .inl ⟨h1, rfl⟩
    · exact .inr (.inl ⟨h1, rfl⟩)
    · exact .inr (.inr ⟨h1, h2, v, rfl, Kd.R_imp hs h hr⟩)
theorem anyK_sub : Kd.Sub anyK [69] := fun d h q hq => by
  rcases List.mem_cons.1 hq with rfl | hq
  · exact List.mem_singleton.2 rfl
  · exact h q hq
theorem anyK_sz : ∀ n, (Kd.upto anyK 1 [69] n).sz = 1 := Kd.upto_sz (fun _ => rfl)
def kA : Kd S42 := Kd.fix anyK 1 [69] anyK_sz (Kd.upto_E anyK_sub)
theorem kA_open {w : World} {x : S42} {cs : List Value} (h : kA.K w x cs) : (x.f0 = 1 ∧ cs = [.iface 3 (.int .i64 x.f1)]) ∨ (x.f0 = 2 ∧ cs = [.iface 9 (.string x.f2)]) ∨ (x.f0 ≠ 1 ∧ x.f0 ≠ 2 ∧ ∃ A c, cs = [.iface 99 (.slice A x.f3.length c)] ∧ x.f3.length ≤ c ∧ kA.C w A x.f3.length x.f3) := by
  obtain ⟨n, h⟩ := h
  cases n with
  | zero => exact h.elim
  | succ n =>
    rcases h with h | h | ⟨h1, h2, A, c, e, hl, hr⟩
    · exact .inl h
    · exact .inr (.inl h)
    · exact .inr (.inr ⟨h1, h2, A, c, e, hl, Kd.fix_C hr⟩)
theorem kA_mkM {w : World} {base : Nat} {ok : Nat → Prop} {x : S42} {v : Value} (h1 : x.f0 ≠ 1) (h2 : x.f0 ≠ 2) (h : kA.R 69 w base ok v x.f3) : kA.M w base ok x [.iface 99 v] := by
  obtain ⟨n, q⟩ := Kd.fix_R_back anyK_mono h
  exact ⟨n + 1, .inr (.inr ⟨h1, h2, v, rfl, q⟩)⟩
theorem kA_int {w : World} {base : Nat} {ok : Nat → Prop} {x : S42} (h : x.f0 = 1) : kA.M w base ok x [.iface 3 (.int .i64 x.f1)] := ⟨1, .inl ⟨h, rfl⟩⟩
theorem kA_str {w : World} {base : Nat} {ok : Nat → Prop} {x : S42} (h : x.f0 = 2) : kA.M w base ok x [.iface 9 (.string x.f2)] := ⟨1, .inr (.inl ⟨h, rfl⟩)⟩
/-- A value that is what a cell is; of the call's own. -/
def anyF (base : Nat) (x : S42) (u : Value) (W : World) : Prop := kA.M W base (fun _ => True) x [u]
abbrev rA (W : World) (base : Nat) (v : Value) (l : List S42) : Prop := Kd.R kA 69 W base (fun _ => True) v l
theorem infoAny : (Tryd.prog.info? 69).map (fun i => (i.zero, i.size, i.bytes)) = some (some .nilIface, 1, 16) := by kernel_rfl
theorem anyF_one {base : Nat} {x : S42} {u : Value} {W : World} (h : anyF base x u W) : u.oneCell' = true := kA.K_one (kA.K_of_M h) u (List.mem_singleton.2 rfl)
theorem anyF_iface {base : Nat} {x : S42} {u : Value} {W : World} (h : anyF base x u W) : ∃ t p, u = .iface t p := by
  rcases kA_open (kA.K_of_M h) with ⟨_, e⟩ | ⟨_, e⟩ | ⟨_, _, A, c, e, _⟩
  · exact ⟨_, _, (List.cons.inj e).1⟩
  · exact ⟨_, _, (List.cons.inj e).1⟩
  · exact ⟨_, _, (List.cons.inj e).1⟩
/-- The append of one more. -/
theorem append_any {W : World} {b0 lo : Nat} {v u : Value} {acc : List S42} {x : S42} {g : Nat} (hR : rA W b0 v acc) (hv : ∀ k, v.ownBlock = some k → k < lo) (hb0 : b0 ≤ lo) (hgl : lo ≤ g)
    (hg : W.heap[g]? = some (.cells #[u] 69 (0, 0))) (hu : anyF lo x u W) (hn : acc.length ≤ 1000000) (ty : TypeId) :
    ∃ v' W', (Builtin.append_ #[99, 99] ty #[v, .slice (some ⟨g, 0, none⟩) 1 1]).run Tryd.prog W = .ok v' W' ∧ W.grownBy W' v.ownBlock ∧ rA W' b0 v' (acc ++ [x]) := by
  obtain ⟨i0, hi0, hz0, hz1, hz2⟩ := info_parts infoAny
  have h1 := anyF_one hu
  have hgs := (Array.getElem?_eq_some_iff.1 hg).1
  obtain ⟨h0, inner, hown, hreps⟩ := hR
  have hbn : (acc.length + 1) * 16 ≤ 1000001 * 16 := Nat.mul_le_mul (by omega) (Nat.le_refl _)
  obtain ⟨h, cap, W', hr, hown', hgr, hat, _⟩ := run_append_lies (P := Tryd.prog) W 99 ty b0 69 i0 _ 1 16 Tryd.underlying99 hi0 hz0 hz1 hz2 (by rfl) (by decide) v acc.length _ hown ⟨g, 0, none⟩ 1 1 [u]
    (by rfl) (World.news_of_block (cs := #[u]) hg) (by
      intro u' hu'
      rw [List.mem_singleton.1 hu']; exact h1) (by decide) (by unfold maxLen; omega) (by omega) (by omega) W.heap.size rfl
  have hm3 : Kd.M kA W b0 (fun k => lo ≤ k) x [u] := kA.M_lower hb0 (kA.M_mono (fun k hk => hk.2.1) (kA.M_bound hu))
  have hres := Kd.R_appended (d := kA) (e := 69) (base := b0) (ok := fun _ => True) (W := W) (w1 := W') (v := v) (v1 := .slice (some ⟨h, 0, none⟩) (acc.length + 1) cap) h0 hreps hm3 (fun k hk => ⟨trivial, fun e => by have := hv k e.symm; omega⟩) (fun k hk => trivial) hown' hgr
    (hat.elim (fun e => .inl (by rw [e]; rfl)) (fun e => .inr ⟨h, rfl, by omega⟩))
  exact ⟨_, W', hr, hgr, hres⟩
theorem grown_belowA {W W' : World} {b0 : Nat} {v : Value} {w : World} {acc : List S42} (hR : rA W b0 v acc) (h : W.grownBy W' v.ownBlock) (hb : Below b0 w W) (hs : b0 ≤ W.heap.size) : Below b0 w W' := by
  have : Below b0 W W' := ⟨h.os, h.tape, h.output, h.size, fun k hk => by
    by_cases e : some k = v.ownBlock
    · obtain ⟨_, inner, hown, _⟩ := hR
      have := own_base hown k e.symm; omega
    · exact h.block k (by omega) e⟩
  exact hb.trans this
theorem rA_own {b : Nat} {v : Value} {l : List S42} {W : World} (h : rA W b v l) : ∀ k, v.ownBlock = some k → k < W.heap.size := fun k hk => by
  obtain ⟨_, inner, ho, _⟩ := h
  exact own_lt ho k hk
def PlainPost (x : S42) (w : World) (e : Ending) (w' : World) : Prop := ∃ u, e = .returned u ∧ anyF w.heap.size x u w' ∧ Below w.heap.size w w'
theorem rA_new (W : World) (b0 : Nat) (h : b0 ≤ W.heap.size) : rA (W.alloc (.cells #[] 69)) b0 (.slice (some ⟨W.heap.size, 0, none⟩) 0 0) [] :=
  ⟨fun _ _ => trivial, [], ⟨by rfl, .inr ⟨W.heap.size, 0, #[], rfl, h, alloc_lastV _ _, Nat.le_refl _, by decide, rfl, rfl⟩⟩, Reps.none _ _⟩
set_option maxHeartbeats 8000000 in
set_option maxRecDepth 100000 in
theorem plain_calls : ∀ (m : Nat) (x : S42), SizeOf.sizeOf x < m → ∀ (A : Option Addr) (c : Nat) (w : World), Kd.C k42 w A x.f3.length x.f3 → x.f3.length ≤ c → parts x ≤ 1000000 →
    Calls Tryd.prog 23 #[.agg #[.int .i64 x.f0, .int .i64 x.f1, .string x.f2, .slice A x.f3.length c]] w (PlainPost x w)
  | 0, x, h, A, c, w, hA, hc, hp => by omega
  | m + 1, x, h, A, c, w, hA, hc, hp => by
    have hIH := fun y h' A c w => plain_calls m y h' A c w
    have HIH := Lib.hid hIH
    clear hIH
    obtain ⟨k, n, s, l⟩ := x
    simp only at hA hc ⊢
    rw [parts] at hp
    obtain ⟨W1, hW1⟩ : ∃ W1, W1 = w.alloc (.cells #[.int .i64 k, .int .i64 n, .string s, .slice A l.length c] 42) := ⟨_, rfl⟩
    have hn1 : Below w.heap.size w W1 := by rw [hW1]; exact (Below.refl _ _).alloc (Nat.le_refl _) _
    have hg1 : W1.heap[w.heap.size]? = some (.cells #[.int .i64 k, .int .i64 n, .string s, .slice A l.length c] 42 (0, 0)) := by rw [hW1]; exact alloc_lastV _ _
    obtain ⟨⟨b0, b1, b2, b3⟩, _⟩ := box4 hg1
    have HN1 := Lib.hid hn1
    have HA := Lib.hid (Kd.C_below hA hn1)
    have hlp := partsL_len l
    rw [hW1] at b0 b1 b2 b3
    have HW1 := Lib.hid hW1
    have HS1 := Lib.hid (show W1.heap.size = w.heap.size + 1 by rw [hW1]; simp)
    clear hW1 hn1 hg1 hA
    by_cases hk1 : k = 1
    · subst hk1
      go_enter Tryd.func23, Tryd.ntmps23
      go_wp2_with fail
      rw [← HW1.out]
      go_ret
      exact ⟨_, rfl, kA_int rfl, HN1.out⟩
    · have hk1' : (k == 1) = false := by simpa using hk1
      by_cases hk2 : k = 2
      · subst hk2
        go_enter Tryd.func23, Tryd.ntmps23
        go_wp2_with fail
        rw [← HW1.out]
        go_ret
        exact ⟨_, rfl, kA_str rfl, HN1.out⟩
      · have hk2' : (k == 2) = false := by simpa using hk2
        have HK := Lib.hid (And.intro hk1 hk2)
        clear hk1 hk2
        go_enter Tryd.func23, Tryd.ntmps23
        go_wp2_with fail
        rw [← HW1.out]
        clear b0 b1 b2 b3
        obtain ⟨W2, hW2⟩ : ∃ W2, W2 = W1.alloc (.cells #[] 69) := ⟨_, rfl⟩
        have hn2 : Below W1.heap.size W1 W2 := by rw [hW2]; exact (Below.refl _ _).alloc (Nat.le_refl _) _
        have hr2 : rA W2 W1.heap.size (.slice (some ⟨W1.heap.size, 0, none⟩) 0 0) [] := by rw [hW2]; exact rA_new W1 _ (Nat.le_refl _)
        rw [HS1.out] at hr2
        have HR2 := Lib.hid hr2
        have HN2 := Lib.hid hn2
        rw [← hW2]
        clear hr2 hn2 hW2
        go_loopw [3, 22] (fun v i wr => ∃ j : Nat, i = .int .i64 (j : Int) ∧ j ≤ l.length ∧ rA wr W1.heap.size v (l.take j) ∧ Below W1.heap.size W1 wr) (fun _ i _ => l.length - (intOf i).toNat)
        case atStart => exact ⟨0, rfl, Nat.zero_le _, by rw [HS1.out]; exact HR2.out, HN2.out⟩
        case round =>
          obtain ⟨i, rfl, hi, hrow, hbe⟩ := hrel
          have HROW := Lib.hid hrow
          have HBE := Lib.hid hbe
          by_cases hil : i < l.length
          · obtain ⟨ad, A3, c3, rfl, c0, c1, c2, c3', l3, g3⟩ := at_T42 (Kd.C_below HA.out hbe) (i : Int) (by omega) (by omega)
            obtain ⟨x, hx⟩ : ∃ x, l[i]? = some x := ⟨_, List.getElem?_eq_getElem hil⟩
            have hrd : rd_T42 l (i : Int) = x := by unfold rd_T42; rw [Int.toNat_natCast, List.getD_eq_getElem?_getD, hx]; rfl
            rw [hrd] at c0 c1 c2 c3' l3 g3
            rw [Int.toNat_natCast] at c0 c1 c2 c3'
            have hpx : parts x ≤ 1000000 := by have := partsL_mem (List.mem_of_getElem? hx); omega
            have hsz : SizeOf.sizeOf x < m := by
              have := List.sizeOf_lt_of_mem (List.mem_of_getElem? hx)
              simp at h; omega
            obtain ⟨W3, hW3⟩ : ∃ W3, W3 = wr.alloc (.cells #[.int .i64 x.f0, .int .i64 x.f1, .string x.f2, .slice A3 x.f3.length c3] 42) := ⟨_, rfl⟩
            have hn3 : Below wr.heap.size wr W3 := by rw [hW3]; exact (Below.refl _ _).alloc (Nat.le_refl _) _
            have hg3 : W3.heap[wr.heap.size]? = some (.cells #[.int .i64 x.f0, .int .i64 x.f1, .string x.f2, .slice A3 x.f3.length c3] 42 (0, 0)) := by rw [hW3]; exact alloc_lastV _ _
            have HCALL := Lib.hid (HIH.out x hsz A3 c3 W3 (Kd.C_below g3 hn3) l3 hpx)
            have HN3 := Lib.hid hn3
            have HX := Lib.hid hx
            have HLEN := Lib.hid (show (l.take i).length ≤ 1000000 by rw [List.length_take]; omega)
            obtain ⟨⟨d0, d1, d2, d3⟩, _⟩ := box4 hg3
            rw [hW3] at d0 d1 d2 d3
            have HW3 := Lib.hid hW3
            clear hrow hbe hrd g3 hx hpx hsz hn3 hg3 hW3
            go_wp2_with fail
            rw [← HW3.out]
            clear d0 d1 d2 d3 c0 c1 c2 c3'
            refine HCALL.out.mono ?_
            rintro e W4 ⟨u, rfl, hu, hb4⟩
            obtain ⟨tu, pu, rfl⟩ := anyF_iface hu
            have hb34 : Below wr.heap.size wr W4 := HN3.out.trans (hb4.mono HN3.out.size)
            obtain ⟨W5, hW5⟩ : ∃ W5, W5 = W4.alloc (.cells #[.iface tu pu] 69) := ⟨_, rfl⟩
            have hn5 : Below W4.heap.size W4 W5 := by rw [hW5]; exact (Below.refl _ _).alloc (Nat.le_refl _) _
            have hg5 : W5.heap[W4.heap.size]? = some (.cells #[.iface tu pu] 69 (0, 0)) := by rw [hW5]; exact alloc_lastV _ _
            have hu5 : anyF wr.heap.size x (.iface tu pu) W5 := kA.M_lower HN3.out.size (Kd.M_below hu hn5)
            have hbw : Below wr.heap.size wr W5 := hb34.trans (hn5.mono hb34.size)
            have hrW := Kd.R_below HROW.out hbw
            obtain ⟨v8, W8, hr8, hg8, hR8⟩ := append_any (b0 := W1.heap.size) (lo := wr.heap.size) hrW (rA_own HROW.out) HBE.out.size (Nat.le_trans HN3.out.size hb4.size) hg5 hu5 HLEN.out 99
            have hB8 := grown_belowA hrW hg8 (HBE.out.trans (hbw.mono HBE.out.size)) (Nat.le_trans HBE.out.size hbw.size)
            have hR8' : rA W8 W1.heap.size v8 (l.take (i + 1)) := by
              rw [List.take_add_one, HX.out]; exact hR8
            have ho1 := anyF_one hu5
            have HR8 := Lib.hid hR8'
            have HB8 := Lib.hid hB8
            rw [hW5] at hr8
            have HAPP := Lib.hid hr8
            clear hg8 hR8 hR8' hB8 hrW hbw hu5 hg5 hn5 hW5 hb34 hb4 hu hr8
            go_wp2_with (refine wpList_value rfl (exec_append _ _ 99 rfl HAPP.out) ?_)
            go_roundw
            case rel => exact ⟨i + 1, by go_num, hil, HR8.out, HB8.out⟩
            case measure => simp [intOf]; omega
          · have hie : i = l.length := by omega
            rw [hie, List.take_length] at hrow
            have HROW2 := Lib.hid hrow
            clear hrow hie hbe
            go_wp2_with fail
            go_ret
            exact ⟨_, rfl, kA_mkM HK.out.1 HK.out.2 (Kd.R_lower HROW2.out HN1.out.size), HN1.out.trans (HBE.out.mono HN1.out.size)⟩
end Go.Proofs.YtgjlchcfdbmmlaaDoor.PObjectTakes
/- object.row, kid walked. -/
namespace Go.Proofs.YtgjlchcfdbmmlaaDoor.PObjectTakes
open Go.RowKit Go.Proofs.YtgjlchcfdbmmlaaDoor.Ord Go.Proofs.YtgjlchcfdbmmlaaDoor.Obj Go.Proofs.YtgjlchcfdbmmlaaDoorW.PrintWords Go.Proofs.YtgjlchcfdbmmlaaDoorW.PrintLast Go.Proofs.YtgjlchcfdbmmlaaDoorW.PrintMore
set_option linter.unusedVariables false
set_option linter.unusedSimpArgs false
attribute [local irreducible] OpGives

abbrev AnyAt (w : World) (x : S42) (u : Value) : Prop := kA.K w x [u]
theorem AnyAt.below {w w' : World} {x : S42} {u : Value} (h : AnyAt w x u) (hb : Below w.heap.size w w') : AnyAt w' x u := kA.K_below hb h
/-- What a cell can be, in a value's words. -/
theorem any_cases {w : World} {x : S42} {u : Value} (h : AnyAt w x u) :
    (x.f0 = 1 ∧ u = .iface 3 (.int .i64 x.f1)) ∨ (x.f0 = 2 ∧ u = .iface 9 (.string x.f2)) ∨ (x.f0 ≠ 1 ∧ x.f0 ≠ 2 ∧ ∃ A c, u = .iface 99 (.slice A x.f3.length c) ∧ x.f3.length ≤ c ∧ kA.C w A x.f3.length x.f3) := by
  rcases kA_open h with ⟨h1, e⟩ | ⟨h1, e⟩ | ⟨h1, h2, A, c, e, hl, hC⟩
  · exact .inl ⟨h1, (List.cons.inj e).1⟩
  · exact .inr (.inl ⟨h1, (List.cons.inj e).1⟩)
  · exact .inr (.inr ⟨h1, h2, A, c, (List.cons.inj e).1, hl, hC⟩)
theorem any_at {w : World} {A : Option Addr} {l : List S42} {i : Nat} {x : S42} (h : kA.C w A l.length l) (hx : l[i]? = some x) :
    ∃ ad u, A = some ad ∧ w.cell? (ad.add i) = some u ∧ AnyAt w x u ∧ (ad.add i).block < w.heap.size := by
  have hi : i < l.length := (List.getElem?_eq_some_iff.1 hx).1
  obtain ⟨ad, c, e, hcl, hK, hc0⟩ := Kd.C_get h z42 (i : Int) (by omega) (by omega)
  have hrd : l.getD (i : Int).toNat z42 = x := by rw [Int.toNat_natCast, List.getD_eq_getElem?_getD, hx]; rfl
  rw [hrd] at hK
  have h1 : c.length = 1 := hcl
  obtain ⟨u, rfl⟩ : ∃ u, c = [u] := by
    match c, h1 with
    | [u], _ => exact ⟨u, rfl⟩
  have h0 := hc0 0 u rfl
  rw [Int.toNat_natCast, show kA.sz = 1 from rfl, Nat.mul_one, Nat.add_zero] at h0
  exact ⟨ad, u, e, h0, hK, block_lt_of_cell h0⟩
def isL (x : S42) : Bool := !(decide (x.f0 = 1)) && !(decide (x.f0 = 2))
def rowD (x : S42) : Option S55 :=
  if isL x then match x.f3 with
    | [a, b, c] => if a.f0 = 1 ∧ b.f0 = 1 then (if c.f0 = 1 then some ⟨a.f1, b.f1, ⟨1, c.f1, ⟨#[]⟩⟩⟩ else if c.f0 = 2 then some ⟨a.f1, b.f1, ⟨2, 0, c.f2⟩⟩ else none) else none
    | _ => none
  else none
def rowVal (r : S55) : Value := .agg #[.int .i64 r.f0, .int .i64 r.f1, .int .i64 r.f2.f0, .int .i64 r.f2.f1, .string r.f2.f2]
def rowPost (o : Option S55) (w : World) (e : Ending) (w' : World) : Prop := e = .returned (.tuple #[rowVal (o.getD z55), .bool o.isSome]) ∧ Below w.heap.size w w'
theorem ta_ii (v : Value) (W : World) : (Instr.typeAssert (.iface 3 v) 69 3 true).run Tryd.prog W = .ok (.tuple #[v, .bool true]) W := by kernel_rfl
theorem ta_is (v : Value) (W : World) : (Instr.typeAssert (.iface 3 v) 69 9 true).run Tryd.prog W = .ok (.tuple #[.string (⟨#[]⟩ : ByteArray), .bool false]) W := by kernel_rfl
theorem ta_il (v : Value) (W : World) : (Instr.typeAssert (.iface 3 v) 69 99 true).run Tryd.prog W = .ok (.tuple #[.slice none 0 0, .bool false]) W := by kernel_rfl
theorem ta_si (v : Value) (W : World) : (Instr.typeAssert (.iface 9 v) 69 3 true).run Tryd.prog W = .ok (.tuple #[.int .i64 0, .bool false]) W := by kernel_rfl
theorem ta_ss (v : Value) (W : World) : (Instr.typeAssert (.iface 9 v) 69 9 true).run Tryd.prog W = .ok (.tuple #[v, .bool true]) W := by kernel_rfl
theorem ta_sl (v : Value) (W : World) : (Instr.typeAssert (.iface 9 v) 69 99 true).run Tryd.prog W = .ok (.tuple #[.slice none 0 0, .bool false]) W := by kernel_rfl
theorem ta_li (v : Value) (W : World) : (Instr.typeAssert (.iface 99 v) 69 3 true).run Tryd.prog W = .ok (.tuple #[.int .i64 0, .bool false]) W := by kernel_rfl
theorem ta_ls (v : Value) (W : World) : (Instr.typeAssert (.iface 99 v) 69 9 true).run Tryd.prog W = .ok (.tuple #[.string (⟨#[]⟩ : ByteArray), .bool false]) W := by kernel_rfl
theorem ta_ll (v : Value) (W : World) : (Instr.typeAssert (.iface 99 v) 69 99 true).run Tryd.prog W = .ok (.tuple #[v, .bool true]) W := by kernel_rfl
attribute [local go_sem] ta_ii ta_is ta_il ta_si ta_ss ta_sl ta_li ta_ls ta_ll
theorem alloc_two (w : World) (a b : Obj) : ((w.alloc a).alloc b).heap[w.heap.size]? = some a := (Lib.alloc_old _ _ _ (by simp)).trans (alloc_lastV _ _)
theorem results_row (tmps : Array Value) (w : World) (c : Nat) (a0 a1 a2 a3 a4 b : Value) (h2 : tmps.getD 2 undef = .pointer (some ⟨c, 0, none⟩)) (h3 : tmps.getD 3 undef = b)
    (hc : w.heap[c]? = some (.cells #[a0, a1, a2, a3, a4] 55 (0, 0))) :
    (results Tryd.f54 tmps).run Tryd.prog w = .ok (.tuple #[.agg #[a0, a1, a2, a3, a4], b]) w := by
  have h2' : tmps[2]?.getD undef = .pointer (some ⟨c, 0, none⟩) := by simpa using h2
  have h3' : tmps[3]?.getD undef = b := by simpa using h3
  obtain ⟨k0, k1, k2, k3, k4⟩ := box5 hc
  simp [results, Tryd.results54, h2', h3', asAddr, k0, k1, k2, k3, k4, go_sem]
set_option maxRecDepth 100000 in
theorem row_atom (u : Value) (w : World) (hu : (∃ v, u = .iface 3 v) ∨ ∃ v, u = .iface 9 v) : Calls Tryd.prog 54 #[u] w (rowPost none w) := by
  rcases hu with ⟨v, rfl⟩ | ⟨v, rfl⟩
  · go_enter Tryd.func54, Tryd.ntmps54
    go_wp2
    refine bodyPost_ret (results_row _ _ w.heap.size _ _ _ _ _ _ rfl rfl (alloc_lastV _ _)) rfl ?_
    exact ⟨rfl, (Below.refl _ _).alloc (Nat.le_refl _) _⟩
  · go_enter Tryd.func54, Tryd.ntmps54
    go_wp2
    refine bodyPost_ret (results_row _ _ w.heap.size _ _ _ _ _ _ rfl rfl (alloc_lastV _ _)) rfl ?_
    exact ⟨rfl, (Below.refl _ _).alloc (Nat.le_refl _) _⟩
set_option maxRecDepth 100000 in
theorem row_len (A : Option Addr) (n c : Nat) (w : World) (hn : n ≠ 3) : Calls Tryd.prog 54 #[.iface 99 (.slice A n c)] w (rowPost none w) := by
  have hn' : ((n : Int) == 3) = false := by rw [beq_eq_false_iff_ne]; omega
  go_enter Tryd.func54, Tryd.ntmps54
  go_wp2
  refine bodyPost_ret (results_row _ _ w.heap.size _ _ _ _ _ _ rfl rfl (alloc_lastV _ _)) rfl ?_
  exact ⟨rfl, (Below.refl _ _).alloc (Nat.le_refl _) _⟩
set_option maxHeartbeats 4000000 in
set_option maxRecDepth 100000 in
theorem row_is (ad : Addr) (c : Nat) (n0 : Int) (s1 : ByteArray) (u2 : Value) (w : World) (h0 : w.cell? ad = some (.iface 3 (.int .i64 n0))) (h1 : w.cell? ⟨ad.block, ad.off + 1, none⟩ = some (.iface 9 (.string s1))) (h2 : w.cell? ⟨ad.block, ad.off + 2, none⟩ = some (u2)) (hb : ad.block < w.heap.size) :
    Calls Tryd.prog 54 #[.iface 99 (.slice (some ad) 3 c)] w (rowPost none w) := by
  go_enter Tryd.func54, Tryd.ntmps54
  go_wp2
  refine bodyPost_ret (results_row _ _ w.heap.size _ _ _ _ _ _ rfl rfl (alloc_lastV _ _)) rfl ?_
  exact ⟨rfl, (Below.refl _ _).alloc (Nat.le_refl _) _⟩
set_option maxHeartbeats 4000000 in
set_option maxRecDepth 100000 in
theorem row_il (ad : Addr) (c : Nat) (n0 : Int) (A1 : Option Addr) (m1 c1 : Nat) (u2 : Value) (w : World) (h0 : w.cell? ad = some (.iface 3 (.int .i64 n0))) (h1 : w.cell? ⟨ad.block, ad.off + 1, none⟩ = some (.iface 99 (.slice A1 m1 c1))) (h2 : w.cell? ⟨ad.block, ad.off + 2, none⟩ = some (u2)) (hb : ad.block < w.heap.size) :
    Calls Tryd.prog 54 #[.iface 99 (.slice (some ad) 3 c)] w (rowPost none w) := by
  go_enter Tryd.func54, Tryd.ntmps54
  go_wp2
  refine bodyPost_ret (results_row _ _ w.heap.size _ _ _ _ _ _ rfl rfl (alloc_lastV _ _)) rfl ?_
  exact ⟨rfl, (Below.refl _ _).alloc (Nat.le_refl _) _⟩
set_option maxHeartbeats 4000000 in
set_option maxRecDepth 100000 in
theorem row_si (ad : Addr) (c : Nat) (s0 : ByteArray) (n1 : Int) (u2 : Value) (w : World) (h0 : w.cell? ad = some (.iface 9 (.string s0))) (h1 : w.cell? ⟨ad.block, ad.off + 1, none⟩ = some (.iface 3 (.int .i64 n1))) (h2 : w.cell? ⟨ad.block, ad.off + 2, none⟩ = some (u2)) (hb : ad.block < w.heap.size) :
    Calls Tryd.prog 54 #[.iface 99 (.slice (some ad) 3 c)] w (rowPost none w) := by
  go_enter Tryd.func54, Tryd.ntmps54
  go_wp2
  refine bodyPost_ret (results_row _ _ w.heap.size _ _ _ _ _ _ rfl rfl (alloc_lastV _ _)) rfl ?_
  exact ⟨rfl, (Below.refl _ _).alloc (Nat.le_refl _) _⟩
set_option maxHeartbeats 4000000 in
set_option maxRecDepth 100000 in
theorem row_ss (ad : Addr) (c : Nat) (s0 : ByteArray) (s1 : ByteArray) (u2 : Value) (w : World) (h0 : w.cell? ad = some (.iface 9 (.string s0))) (h1 : w.cell? ⟨ad.block, ad.off + 1, none⟩ = some (.iface 9 (.string s1))) (h2 : w.cell? ⟨ad.block, ad.off + 2, none⟩ = some (u2)) (hb : ad.block < w.heap.size) :
    Calls Tryd.prog 54 #[.iface 99 (.slice (some ad) 3 c)] w (rowPost none w) := by
  go_enter Tryd.func54, Tryd.ntmps54
  go_wp2
  refine bodyPost_ret (results_row _ _ w.heap.size _ _ _ _ _ _ rfl rfl (alloc_lastV _ _)) rfl ?_
  exact ⟨rfl, (Below.refl _ _).alloc (Nat.le_refl _) _⟩
set_option maxHeartbeats 4000000 in
set_option maxRecDepth 100000 in
theorem row_sl (ad : Addr) (c : Nat) (s0 : ByteArray) (A1 : Option Addr) (m1 c1 : Nat) (u2 : Value) (w : World) (h0 : w.cell? ad = some (.iface 9 (.string s0))) (h1 : w.cell? ⟨ad.block, ad.off + 1, none⟩ = some (.iface 99 (.slice A1 m1 c1))) (h2 : w.cell? ⟨ad.block, ad.off + 2, none⟩ = some (u2)) (hb : ad.block < w.heap.size) :
    Calls Tryd.prog 54 #[.iface 99 (.slice (some ad) 3 c)] w (rowPost none w) := by
  go_enter Tryd.func54, Tryd.ntmps54
  go_wp2
  refine bodyPost_ret (results_row _ _ w.heap.size _ _ _ _ _ _ rfl rfl (alloc_lastV _ _)) rfl ?_
  exact ⟨rfl, (Below.refl _ _).alloc (Nat.le_refl _) _⟩
set_option maxHeartbeats 4000000 in
set_option maxRecDepth 100000 in
theorem row_li (ad : Addr) (c : Nat) (A0 : Option Addr) (m0 c0 : Nat) (n1 : Int) (u2 : Value) (w : World) (h0 : w.cell? ad = some (.iface 99 (.slice A0 m0 c0))) (h1 : w.cell? ⟨ad.block, ad.off + 1, none⟩ = some (.iface 3 (.int .i64 n1))) (h2 : w.cell? ⟨ad.block, ad.off + 2, none⟩ = some (u2)) (hb : ad.block < w.heap.size) :
    Calls Tryd.prog 54 #[.iface 99 (.slice (some ad) 3 c)] w (rowPost none w) := by
  go_enter Tryd.func54, Tryd.ntmps54
  go_wp2
  refine bodyPost_ret (results_row _ _ w.heap.size _ _ _ _ _ _ rfl rfl (alloc_lastV _ _)) rfl ?_
  exact ⟨rfl, (Below.refl _ _).alloc (Nat.le_refl _) _⟩
set_option maxHeartbeats 4000000 in
set_option maxRecDepth 100000 in
theorem row_ls (ad : Addr) (c : Nat) (A0 : Option Addr) (m0 c0 : Nat) (s1 : ByteArray) (u2 : Value) (w : World) (h0 : w.cell? ad = some (.iface 99 (.slice A0 m0 c0))) (h1 : w.cell? ⟨ad.block, ad.off + 1, none⟩ = some (.iface 9 (.string s1))) (h2 : w.cell? ⟨ad.block, ad.off + 2, none⟩ = some (u2)) (hb : ad.block < w.heap.size) :
    Calls Tryd.prog 54 #[.iface 99 (.slice (some ad) 3 c)] w (rowPost none w) := by
  go_enter Tryd.func54, Tryd.ntmps54
  go_wp2
  refine bodyPost_ret (results_row _ _ w.heap.size _ _ _ _ _ _ rfl rfl (alloc_lastV _ _)) rfl ?_
  exact ⟨rfl, (Below.refl _ _).alloc (Nat.le_refl _) _⟩
set_option maxHeartbeats 4000000 in
set_option maxRecDepth 100000 in
theorem row_ll (ad : Addr) (c : Nat) (A0 : Option Addr) (m0 c0 : Nat) (A1 : Option Addr) (m1 c1 : Nat) (u2 : Value) (w : World) (h0 : w.cell? ad = some (.iface 99 (.slice A0 m0 c0))) (h1 : w.cell? ⟨ad.block, ad.off + 1, none⟩ = some (.iface 99 (.slice A1 m1 c1))) (h2 : w.cell? ⟨ad.block, ad.off + 2, none⟩ = some (u2)) (hb : ad.block < w.heap.size) :
    Calls Tryd.prog 54 #[.iface 99 (.slice (some ad) 3 c)] w (rowPost none w) := by
  go_enter Tryd.func54, Tryd.ntmps54
  go_wp2
  refine bodyPost_ret (results_row _ _ w.heap.size _ _ _ _ _ _ rfl rfl (alloc_lastV _ _)) rfl ?_
  exact ⟨rfl, (Below.refl _ _).alloc (Nat.le_refl _) _⟩
set_option maxHeartbeats 4000000 in
set_option maxRecDepth 100000 in
theorem row_iii (ad : Addr) (c : Nat) (n0 : Int) (n1 : Int) (n2 : Int) (w : World) (h0 : w.cell? ad = some (.iface 3 (.int .i64 n0))) (h1 : w.cell? ⟨ad.block, ad.off + 1, none⟩ = some (.iface 3 (.int .i64 n1))) (h2 : w.cell? ⟨ad.block, ad.off + 2, none⟩ = some (.iface 3 (.int .i64 n2))) (hb : ad.block < w.heap.size) :
    Calls Tryd.prog 54 #[.iface 99 (.slice (some ad) 3 c)] w (rowPost (some ⟨n0, n1, ⟨1, n2, ⟨#[]⟩⟩⟩) w) := by
  go_enter Tryd.func54, Tryd.ntmps54
  go_wp2
  refine bodyPost_ret (results_row _ _ w.heap.size _ _ _ _ _ _ rfl rfl (alloc_two _ _ _)) rfl ?_
  exact ⟨rfl, ((Below.refl _ _).alloc (Nat.le_refl _) _).alloc (by simp) _⟩
set_option maxHeartbeats 4000000 in
set_option maxRecDepth 100000 in
theorem row_iis (ad : Addr) (c : Nat) (n0 n1 : Int) (s2 : ByteArray) (w : World) (h0 : w.cell? ad = some (.iface 3 (.int .i64 n0))) (h1 : w.cell? ⟨ad.block, ad.off + 1, none⟩ = some (.iface 3 (.int .i64 n1))) (h2 : w.cell? ⟨ad.block, ad.off + 2, none⟩ = some (.iface 9 (.string s2))) (hb : ad.block < w.heap.size) :
    Calls Tryd.prog 54 #[.iface 99 (.slice (some ad) 3 c)] w (rowPost (some ⟨n0, n1, ⟨2, 0, s2⟩⟩) w) := by
  go_enter Tryd.func54, Tryd.ntmps54
  go_wp2
  refine bodyPost_ret (results_row _ _ w.heap.size _ _ _ _ _ _ rfl rfl (alloc_two _ _ _)) rfl ?_
  exact ⟨rfl, ((Below.refl _ _).alloc (Nat.le_refl _) _).alloc (by simp) _⟩
set_option maxHeartbeats 4000000 in
set_option maxRecDepth 100000 in
theorem row_iil (ad : Addr) (c : Nat) (n0 n1 : Int) (v2 : Value) (w : World) (h0 : w.cell? ad = some (.iface 3 (.int .i64 n0))) (h1 : w.cell? ⟨ad.block, ad.off + 1, none⟩ = some (.iface 3 (.int .i64 n1))) (h2 : w.cell? ⟨ad.block, ad.off + 2, none⟩ = some (.iface 99 v2)) (hb : ad.block < w.heap.size) :
    Calls Tryd.prog 54 #[.iface 99 (.slice (some ad) 3 c)] w (rowPost none w) := by
  go_enter Tryd.func54, Tryd.ntmps54
  go_wp2
  refine bodyPost_ret (results_row _ _ w.heap.size _ _ _ _ _ _ rfl rfl (alloc_two _ _ _)) rfl ?_
  exact ⟨rfl, ((Below.refl _ _).alloc (Nat.le_refl _) _).alloc (by simp) _⟩
theorem three_at {ad : Addr} {w : World} {u : Value} (j : Nat) (hj : 0 < j) (h : w.cell? (ad.add j) = some u) : w.cell? ⟨ad.block, ad.off + j, none⟩ = some u := by
  have e : ad.add j = ⟨ad.block, ad.off + j, none⟩ := by
    have := add_field ad 0 j hj
    rw [Nat.zero_add, show ad.add 0 = ad from by simp [Addr.add]] at this
    exact this
  rw [← e]; exact h
theorem isL_of {x : S42} (h1 : x.f0 ≠ 1) (h2 : x.f0 ≠ 2) : isL x = true := by unfold isL; rw [decide_eq_false h1, decide_eq_false h2]; rfl
theorem row_calls (x : S42) (u : Value) (w : World) (h : AnyAt w x u) : Calls Tryd.prog 54 #[u] w (rowPost (rowD x) w) := by
  rcases any_cases h with ⟨h1, rfl⟩ | ⟨h1, rfl⟩ | ⟨h1, h2, A, c, rfl, hl, hC⟩
  · have : rowD x = none := by unfold rowD isL; rw [decide_eq_true h1]; rfl
    rw [this]; exact row_atom _ w (.inl ⟨_, rfl⟩)
  · have : rowD x = none := by unfold rowD isL; rw [decide_eq_true h1]; simp
    rw [this]; exact row_atom _ w (.inr ⟨_, rfl⟩)
  · have hL := isL_of h1 h2
    by_cases h3 : x.f3.length = 3
    · obtain ⟨a, b, d, hx⟩ : ∃ a b d, x.f3 = [a, b, d] := by
        match hx : x.f3, h3 with
        | [a, b, d], _ => exact ⟨a, b, d, rfl⟩
      have hd : rowD x = if a.f0 = 1 ∧ b.f0 = 1 then (if d.f0 = 1 then some ⟨a.f1, b.f1, ⟨1, d.f1, ⟨#[]⟩⟩⟩ else if d.f0 = 2 then some ⟨a.f1, b.f1, ⟨2, 0, d.f2⟩⟩ else none) else none := by
        unfold rowD; rw [if_pos hL, hx]
      rw [hd, h3]
      obtain ⟨ad, u0, rfl, c0, k0, hb0⟩ := any_at hC (i := 0) (x := a) (by rw [hx]; rfl)
      obtain ⟨ad1, u1, e1, c1, k1, hb1⟩ := any_at hC (i := 1) (x := b) (by rw [hx]; rfl)
      obtain ⟨ad2, u2, e2, c2, k2, hb2⟩ := any_at hC (i := 2) (x := d) (by rw [hx]; rfl)
      cases e1; cases e2
      rw [show ad.add 0 = ad from by simp [Addr.add]] at c0 hb0
      have c1 := three_at 1 (by decide) c1
      have c2 := three_at 2 (by decide) c2
      rcases any_cases k0 with ⟨q0, rfl⟩ | ⟨q0, rfl⟩ | ⟨q0, q0', A0, d0, rfl, _⟩ <;> rcases any_cases k1 with ⟨q1, rfl⟩ | ⟨q1, rfl⟩ | ⟨q1, q1', A1, d1, rfl, _⟩
      · rw [if_pos ⟨q0, q1⟩]
        rcases any_cases k2 with ⟨q2, rfl⟩ | ⟨q2, rfl⟩ | ⟨q2, q2', A2, d2, rfl, _⟩
        · rw [if_pos q2]; exact row_iii ad c _ _ _ w c0 c1 c2 hb0
        · rw [if_neg (by omega), if_pos q2]; exact row_iis ad c _ _ _ w c0 c1 c2 hb0
        · rw [if_neg q2, if_neg q2']; exact row_iil ad c _ _ _ w c0 c1 c2 hb0
      · rw [if_neg (by omega)]; exact row_is ad c _ _ _ w c0 c1 c2 hb0
      · rw [if_neg (by omega)]; exact row_il ad c _ _ _ _ _ w c0 c1 c2 hb0
      · rw [if_neg (by omega)]; exact row_si ad c _ _ _ w c0 c1 c2 hb0
      · rw [if_neg (by omega)]; exact row_ss ad c _ _ _ w c0 c1 c2 hb0
      · rw [if_neg (by omega)]; exact row_sl ad c _ _ _ _ _ w c0 c1 c2 hb0
      · rw [if_neg (by omega)]; exact row_li ad c _ _ _ _ _ w c0 c1 c2 hb0
      · rw [if_neg (by omega)]; exact row_ls ad c _ _ _ _ _ w c0 c1 c2 hb0
      · rw [if_neg (by omega)]; exact row_ll ad c _ _ _ _ _ _ _ w c0 c1 c2 hb0
    · have : rowD x = none := by
        unfold rowD; rw [if_pos hL]
        split
        · rename_i hx; rw [hx] at h3; exact absurd rfl h3
        · rfl
      rw [this]; exact row_len A _ c w h3
end Go.Proofs.YtgjlchcfdbmmlaaDoor.PObjectTakes
