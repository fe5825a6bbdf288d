/- Texts of one proof, joined: TOP, TOQ. -/
import Derived.Test.YtgjlchcfdbmmlaaDoorROgg
import Derived.Test.YtgjlchcfdbmmlaaDoorROkg
set_option linter.unusedSimpArgs false
set_option linter.unusedVariables false
/- object.nodeOf walked. -/
namespace Go.Proofs.YtgjlchcfdbmmlaaDoor.PObjectTakes
open Go.RowKit Go.Proofs.YtgjlchcfdbmmlaaDoor.Ord Go.Proofs.YtgjlchcfdbmmlaaDoor.Obj Go.Proofs.YtgjlchcfdbmmlaaDoorW.PrintWords Go.Proofs.YtgjlchcfdbmmlaaDoorW.PrintLast Go.Proofs.YtgjlchcfdbmmlaaDoorW.PrintMore
set_option linter.unusedVariables false
set_option linter.unusedSimpArgs false
attribute [local irreducible] OpGives

theorem any_str {w : World} {x : S42} {u : Value} (h : AnyAt w x u) : ∃ s, (∀ W, (Instr.typeAssert u 69 9 true).run Tryd.prog W = .ok (.tuple #[.string s, .bool (decide (x.f0 = 2))]) W) ∧ (x.f0 = 2 → s = x.f2) := by
  rcases any_cases h with ⟨h1, rfl⟩ | ⟨h1, rfl⟩ | ⟨h1, h2, A, c, rfl, _, _⟩
  · exact ⟨⟨#[]⟩, fun W => by rw [ta_is, decide_eq_false (by omega)], fun e => by omega⟩
  · exact ⟨x.f2, fun W => by rw [ta_ss, decide_eq_true h1], fun e => rfl⟩
  · exact ⟨⟨#[]⟩, fun W => by rw [ta_ls, decide_eq_false h2], fun e => absurd e h2⟩
theorem any_int {w : World} {x : S42} {u : Value} (h : AnyAt w x u) : ∃ n, (∀ W, (Instr.typeAssert u 69 3 true).run Tryd.prog W = .ok (.tuple #[.int .i64 n, .bool (decide (x.f0 = 1))]) W) ∧ (x.f0 = 1 → n = x.f1) := by
  rcases any_cases h with ⟨h1, rfl⟩ | ⟨h1, rfl⟩ | ⟨h1, h2, A, c, rfl, _, _⟩
  · exact ⟨x.f1, fun W => by rw [ta_ii, decide_eq_true h1], fun e => rfl⟩
  · exact ⟨0, fun W => by rw [ta_si, decide_eq_false (by omega)], fun e => by omega⟩
  · exact ⟨0, fun W => by rw [ta_li, decide_eq_false h1], fun e => absurd e h1⟩
theorem any_list {w : World} {x : S42} {u : Value} (h : AnyAt w x u) : ∃ A n c, (∀ W, (Instr.typeAssert u 69 99 true).run Tryd.prog W = .ok (.tuple #[.slice A n c, .bool (isL x)]) W) ∧ (isL x = true → n = x.f3.length ∧ n ≤ c ∧ kA.C w A n x.f3) := by
  rcases any_cases h with ⟨h1, rfl⟩ | ⟨h1, rfl⟩ | ⟨h1, h2, A, c, rfl, hl, hC⟩
  · have : isL x = false := by unfold isL; rw [decide_eq_true h1]; rfl
    exact ⟨none, 0, 0, fun W => by rw [ta_il, this], fun e => by rw [this] at e; cases e⟩
  · have : isL x = false := by unfold isL; rw [decide_eq_true h1]; simp
    exact ⟨none, 0, 0, fun W => by rw [ta_sl, this], fun e => by rw [this] at e; cases e⟩
  · exact ⟨A, x.f3.length, c, fun W => by rw [ta_ll, isL_of h1 h2], fun _ => ⟨rfl, hl, hC⟩⟩
def kidsD : List S42 → Option (List S60)
  | [] => some []
  | x :: xs => match kidD x with | none => none | some r => (kidsD xs).map (r :: ·)
theorem kidsD_step {l : List S42} {i : Nat} {x : S42} (h : l[i]? = some x) : kidsD (l.drop i) = match kidD x with | none => none | some r => (kidsD (l.drop (i + 1))).map (r :: ·) := by
  obtain ⟨hi, hx⟩ := List.getElem?_eq_some_iff.1 h
  rw [List.drop_eq_getElem_cons hi, kidsD, hx]
abbrev rK (W : World) (base : Nat) (v : Value) (l : List S60) : Prop := Kd.R k60 60 W base (fun _ => True) v l
theorem infoKid : (Tryd.prog.info? 60).map (fun i => (i.zero, i.size, i.bytes)) = some (some (.agg #[.int .u8 0, .string (⟨#[]⟩ : ByteArray)]), 2, 24) := by kernel_rfl
theorem append_kid {W : World} {b0 : Nat} {v : Value} {acc : List S60} {x : S60} {g : Nat} (hR : rK W b0 v acc) (hb0 : b0 ≤ W.heap.size)
    (hg : W.heap[g]? = some (.cells #[.int .u8 x.f0, .string x.f1] 60 (0, 0))) (hn : acc.length ≤ 1000000) (ty : TypeId) :
    ∃ v' W', (Builtin.append_ #[24, 24] ty #[v, .slice (some ⟨g, 0, none⟩) 1 1]).run Tryd.prog W = .ok v' W' ∧ W.grownBy W' v.ownBlock ∧ rK W' b0 v' (acc ++ [x]) := by
  obtain ⟨i0, hi0, hz0, hz1, hz2⟩ := info_parts infoKid
  have hgs := (Array.getElem?_eq_some_iff.1 hg).1
  obtain ⟨h0, inner, hown, hreps⟩ := hR
  have hbn : (acc.length + 1) * 24 ≤ 1000001 * 24 := Nat.mul_le_mul (by omega) (Nat.le_refl _)
  obtain ⟨h, cap, W', hr, hown', hgr, hat, _⟩ := run_append_lies (P := Tryd.prog) W 24 ty b0 60 i0 _ 2 24 Tryd.underlying24 hi0 hz0 hz1 hz2 (by rfl) (by decide) v acc.length _ hown ⟨g, 0, none⟩ 1 1 [.int .u8 x.f0, .string x.f1]
    (by rfl) (World.news_of_block (cs := #[.int .u8 x.f0, .string x.f1]) hg) (by
      intro u hu
      simp only [List.mem_cons, List.not_mem_nil, or_false] at hu
      rcases hu with rfl | rfl <;> rfl) (by decide) (by unfold maxLen; omega) (by omega) hb0 W.heap.size rfl
  have hm3 : Kd.M k60 W b0 (fun _ => False) x [.int .u8 x.f0, .string x.f1] := k60_mkM W b0 _ x
  have hres := Kd.R_appended (d := k60) (e := 60) (base := b0) (ok := fun _ => True) (W := W) (w1 := W') (v := v) (v1 := .slice (some ⟨h, 0, none⟩) (acc.length + 1) cap) h0 hreps hm3 (fun k hk => hk.elim) (fun k hk => trivial) hown' hgr
    (hat.elim (fun e => .inl (by rw [e]; rfl)) (fun e => .inr ⟨h, rfl, by omega⟩))
  exact ⟨_, W', hr, hgr, hres⟩
def zOb : Ob := ⟨0, ⟨#[]⟩, [], [], [], 0, ⟨#[]⟩, ⟨#[]⟩⟩
def nodeD (a b c : S42) : Option Ob :=
  if a.f0 = 2 ∧ (takenR b).2 = true ∧ isL c = true then (kidsD c.f3).map (fun ks => ⟨1, a.f2, (takenR b).1, ks, [], 0, ⟨#[]⟩, ⟨#[]⟩⟩) else none
abbrev rS (W : World) (base : Nat) (v : Value) (l : List ByteArray) : Prop := Kd.R Kd.string 9 W base (fun _ => True) v l
/-- An object's lists are the call's own. -/
structure ObR (w : World) (base : Nat) (o : Ob) (Ar : Option Addr) (cr : Nat) (Ak : Option Addr) (ck : Nat) (Ap : Option Addr) (cp : Nat) : Prop where
  r : rR w base (.slice Ar o.rows.length cr) o.rows
  k : rK w base (.slice Ak o.kids.length ck) o.kids
  p : rS w base (.slice Ap o.parents.length cp) o.parents
theorem ObR.at_ {w : World} {base : Nat} {o : Ob} {Ar : Option Addr} {cr : Nat} {Ak : Option Addr} {ck : Nat} {Ap : Option Addr} {cp : Nat} (h : ObR w base o Ar cr Ak ck Ap cp) : ObAt w o Ar cr Ak ck Ap cp := by
  obtain ⟨_, h1, h2⟩ := Kd.R_reads' h.r
  obtain ⟨_, h3, h4⟩ := Kd.R_reads' h.k
  obtain ⟨_, h5, h6⟩ := Kd.R_reads' h.p
  exact ⟨h2, h1, h4, h3, h6, h5⟩
theorem ObR.move {w W : World} {base base' : Nat} {o : Ob} {Ar : Option Addr} {cr : Nat} {Ak : Option Addr} {ck : Nat} {Ap : Option Addr} {cp : Nat} (h : ObR w base o Ar cr Ak ck Ap cp) (hm : ∀ k, base ≤ k → k < w.heap.size → W.heap[k]? = w.heap[k]?) (hb : base' ≤ base) : ObR W base' o Ar cr Ak ck Ap cp :=
  ⟨Kd.R_mono (Kd.R_lower (Kd.R_step (Kd.R_bound h.r) (fun k hk hl => hm k hk.2.1 hl)) hb) (fun _ _ => trivial), Kd.R_mono (Kd.R_lower (Kd.R_step (Kd.R_bound h.k) (fun k hk hl => hm k hk.2.1 hl)) hb) (fun _ _ => trivial), Kd.R_mono (Kd.R_lower (Kd.R_step (Kd.R_bound h.p) (fun k hk hl => hm k hk.2.1 hl)) hb) (fun _ _ => trivial)⟩
/-- An object, and whether there is one. -/
def ObPost (r : Option Ob) (w : World) (e : Ending) (w' : World) : Prop :=
  ∃ Ar cr Ak ck Ap cp, e = .returned (.tuple #[.agg (obV (r.getD zOb) Ar cr Ak ck Ap cp), .bool r.isSome]) ∧ ObR w' w.heap.size (r.getD zOb) Ar cr Ak ck Ap cp ∧ Below w.heap.size w w'
def obZ : Array Value := #[.int .i64 0, .string (⟨#[]⟩ : ByteArray), .slice none 0 0, .slice none 0 0, .slice none 0 0, .int .i64 0, .string (⟨#[]⟩ : ByteArray), .string (⟨#[]⟩ : ByteArray)]
theorem ObR_zero (w : World) (base : Nat) : ObR w base zOb none 0 none 0 none 0 := ⟨Kd.R_nil _ _ _ _ _, Kd.R_nil _ _ _ _ _, Kd.R_nil _ _ _ _ _⟩
def put8 (W : World) (g : Nat) (a0 a1 a2 a3 a4 a5 a6 a7 : Value) : World := (((((((W.setCell ⟨g, 0, none⟩ a0).setCell ⟨g, 1, none⟩ a1).setCell ⟨g, 2, none⟩ a2).setCell ⟨g, 3, none⟩ a3).setCell ⟨g, 4, none⟩ a4).setCell ⟨g, 5, none⟩ a5).setCell ⟨g, 6, none⟩ a6).setCell ⟨g, 7, none⟩ a7
theorem put8_same {W : World} {g : Nat} {t : TypeId} {c0 c1 c2 c3 c4 c5 c6 c7 : Value} (h : W.heap[g]? = some (.cells #[c0, c1, c2, c3, c4, c5, c6, c7] t (0, 0))) (a0 a1 a2 a3 a4 a5 a6 a7 : Value) :
    (put8 W g a0 a1 a2 a3 a4 a5 a6 a7).heap[g]? = some (.cells #[a0, a1, a2, a3, a4, a5, a6, a7] t (0, 0)) := by
  unfold put8
  have h0 := blk_put (cs' := #[a0, c1, c2, c3, c4, c5, c6, c7]) h 0 a0 rfl
  generalize W.setCell ⟨g, 0, none⟩ a0 = W0 at h0 ⊢
  have h1 := blk_put (cs' := #[a0, a1, c2, c3, c4, c5, c6, c7]) h0 1 a1 rfl
  generalize W0.setCell ⟨g, 1, none⟩ a1 = W1 at h1 ⊢
  have h2 := blk_put (cs' := #[a0, a1, a2, c3, c4, c5, c6, c7]) h1 2 a2 rfl
  generalize W1.setCell ⟨g, 2, none⟩ a2 = W2 at h2 ⊢
  have h3 := blk_put (cs' := #[a0, a1, a2, a3, c4, c5, c6, c7]) h2 3 a3 rfl
  generalize W2.setCell ⟨g, 3, none⟩ a3 = W3 at h3 ⊢
  have h4 := blk_put (cs' := #[a0, a1, a2, a3, a4, c5, c6, c7]) h3 4 a4 rfl
  generalize W3.setCell ⟨g, 4, none⟩ a4 = W4 at h4 ⊢
  have h5 := blk_put (cs' := #[a0, a1, a2, a3, a4, a5, c6, c7]) h4 5 a5 rfl
  generalize W4.setCell ⟨g, 5, none⟩ a5 = W5 at h5 ⊢
  have h6 := blk_put (cs' := #[a0, a1, a2, a3, a4, a5, a6, c7]) h5 6 a6 rfl
  generalize W5.setCell ⟨g, 6, none⟩ a6 = W6 at h6 ⊢
  exact blk_put (cs' := #[a0, a1, a2, a3, a4, a5, a6, a7]) h6 7 a7 rfl
theorem sc_os (W : World) (p : Addr) (v : Value) : (W.setCell p v).os = W.os := rfl
theorem sc_tape (W : World) (p : Addr) (v : Value) : (W.setCell p v).tape = W.tape := rfl
theorem sc_output (W : World) (p : Addr) (v : Value) : (W.setCell p v).output = W.output := rfl
theorem sc_size (W : World) (p : Addr) (v : Value) : (W.setCell p v).heap.size = W.heap.size := by simp [World.setCell]
theorem put8_far {W : World} {g k : Nat} (h : k ≠ g) (a0 a1 a2 a3 a4 a5 a6 a7 : Value) : (put8 W g a0 a1 a2 a3 a4 a5 a6 a7).heap[k]? = W.heap[k]? := by
  unfold put8
  rw [set_far _ _ _ _ _ h, set_far _ _ _ _ _ h, set_far _ _ _ _ _ h, set_far _ _ _ _ _ h, set_far _ _ _ _ _ h, set_far _ _ _ _ _ h, set_far _ _ _ _ _ h, set_far _ _ _ _ _ h]
theorem put8_size (W : World) (g : Nat) (a0 a1 a2 a3 a4 a5 a6 a7 : Value) : (put8 W g a0 a1 a2 a3 a4 a5 a6 a7).heap.size = W.heap.size := by unfold put8; simp only [sc_size]
theorem put8_below {w W : World} {g B : Nat} (h : Below B w W) (hg : B ≤ g) (a0 a1 a2 a3 a4 a5 a6 a7 : Value) : Below B w (put8 W g a0 a1 a2 a3 a4 a5 a6 a7) :=
  ⟨by unfold put8; simp only [sc_os]; exact h.os, by unfold put8; simp only [sc_tape]; exact h.tape, by unfold put8; simp only [sc_output]; exact h.output, by rw [put8_size]; exact h.size, fun k hk => (put8_far (by omega) _ _ _ _ _ _ _ _).trans (h.block k hk)⟩
theorem frozen8 {W : World} {g : Nat} {t : TypeId} {cs : Array Value} (h : W.heap[g]? = some (.cells cs t (0, 0))) : (W.frozen? ⟨g, 0, none⟩ = false ∧ W.frozen? ⟨g, 1, none⟩ = false ∧ W.frozen? ⟨g, 2, none⟩ = false ∧ W.frozen? ⟨g, 3, none⟩ = false) ∧ W.frozen? ⟨g, 4, none⟩ = false ∧ W.frozen? ⟨g, 5, none⟩ = false ∧ W.frozen? ⟨g, 6, none⟩ = false ∧ W.frozen? ⟨g, 7, none⟩ = false :=
  ⟨⟨Lib.frozen_of_heap h 0, Lib.frozen_of_heap h 1, Lib.frozen_of_heap h 2, Lib.frozen_of_heap h 3⟩, Lib.frozen_of_heap h 4, Lib.frozen_of_heap h 5, Lib.frozen_of_heap h 6, Lib.frozen_of_heap h 7⟩
theorem results_ob {fn : Func} (hfn : fn.results = #[.cell 2 27, .tmp 3]) (tmps : Array Value) (w : World) (c : Nat) (a0 a1 a2 a3 a4 a5 a6 a7 b : Value) (h2 : tmps.getD 2 undef = .pointer (some ⟨c, 0, none⟩)) (h3 : tmps.getD 3 undef = b)
    (hc : w.heap[c]? = some (.cells #[a0, a1, a2, a3, a4, a5, a6, a7] 27 (0, 0))) :
    (results fn tmps).run Tryd.prog w = .ok (.tuple #[.agg #[a0, a1, a2, a3, a4, a5, a6, a7], b]) w := by
  have h2' : tmps[2]?.getD undef = .pointer (some ⟨c, 0, none⟩) := by simpa using h2
  have h3' : tmps[3]?.getD undef = b := by simpa using h3
  obtain ⟨⟨k0, k1, k2, k3⟩, k4, k5, k6, k7⟩ := box8 hc
  simp [results, hfn, h2', h3', asAddr, k0, k1, k2, k3, k4, k5, k6, k7, go_sem]
theorem ob_results : (Tryd.f41).results = #[.cell 2 27, .tmp 3] := Tryd.results41
end Go.Proofs.YtgjlchcfdbmmlaaDoor.PObjectTakes
/- object.nodeOf walked. -/
namespace Go.Proofs.YtgjlchcfdbmmlaaDoor.PObjectTakes
open Go.RowKit Go.Proofs.YtgjlchcfdbmmlaaDoor.Ord Go.Proofs.YtgjlchcfdbmmlaaDoor.Obj Go.Proofs.YtgjlchcfdbmmlaaDoorW.PrintWords Go.Proofs.YtgjlchcfdbmmlaaDoorW.PrintLast Go.Proofs.YtgjlchcfdbmmlaaDoorW.PrintMore
set_option linter.unusedVariables false
set_option linter.unusedSimpArgs false
attribute [local irreducible] OpGives

/-- What holds between the rounds: the object's box g, its kids' row. -/
structure NodeIn (w2 : World) (g : Nat) (lab : ByteArray) (rv : Value) (v : Value) (acc : List S60) (W : World) : Prop where
  below : Below w2.heap.size w2 W
  ge : w2.heap.size ≤ g
  blk : W.heap[g]? = some (.cells #[.int .i64 1, .string lab, rv, v, .slice none 0 0, .int .i64 0, .string (⟨#[]⟩ : ByteArray), .string (⟨#[]⟩ : ByteArray)] 27 (0, 0))
  row : rK W (g + 1) v acc
theorem NodeIn.later {w2 W W' : World} {g : Nat} {lab : ByteArray} {rv v : Value} {acc : List S60} (h : NodeIn w2 g lab rv v acc W) (hb : Below W.heap.size W W') : NodeIn w2 g lab rv v acc W' :=
  ⟨h.below.trans (hb.mono h.below.size), h.ge, (hb.block g (Array.getElem?_eq_some_iff.1 h.blk).1).trans h.blk, Kd.R_below h.row hb⟩
theorem NodeIn.step {w2 W W' : World} {g : Nat} {lab : ByteArray} {rv v v' : Value} {acc acc' : List S60} (h : NodeIn w2 g lab rv v acc W) (hg : W.grownBy W' v.ownBlock) (hr : rK W' (g + 1) v' acc') :
    NodeIn w2 g lab rv v' acc' (W'.setCell ⟨g, 3, none⟩ v') := by
  obtain ⟨_, inner, hown, _⟩ := h.row
  have hgl := (Array.getElem?_eq_some_iff.1 h.blk).1
  have hne : ∀ k, k < g + 1 → some k ≠ v.ownBlock := fun k hk e => by have := own_base hown k e.symm; omega
  have hblk := (hg.block g hgl (hne g (by omega))).trans h.blk
  have hs := h.below.size
  have hb : Below w2.heap.size w2 W' := ⟨hg.os.trans h.below.os, hg.tape.trans h.below.tape, hg.output.trans h.below.output, Nat.le_trans hs hg.size, fun k hk => (hg.block k (by omega) (hne k (by have := h.ge; omega))).trans (h.below.block k hk)⟩
  refine ⟨⟨hb.os, hb.tape, hb.output, by rw [sc_size]; exact hb.size, fun k hk => (set_far _ _ _ _ _ (by have := h.ge; omega)).trans (hb.block k hk)⟩, h.ge, blk_put (cs' := #[.int .i64 1, .string lab, rv, v', .slice none 0 0, .int .i64 0, .string (⟨#[]⟩ : ByteArray), .string (⟨#[]⟩ : ByteArray)]) hblk 3 v' rfl, ?_⟩
  exact Kd.R_mono (Kd.R_step (Kd.R_bound hr) (fun k hk _ => set_far _ _ _ _ _ (by have := hk.2.1; omega))) (fun _ _ => trivial)
set_option maxHeartbeats 16000000 in
set_option maxRecDepth 100000 in
theorem nodeOf_calls (a b d : S42) (A : Option Addr) (c : Nat) (w : World) (hA : kA.C w A 3 [a, b, d]) (hbl : b.f3.length ≤ 1000000) (hdl : d.f3.length ≤ 1000000) (hT : Lib.Utf8Tabs 0 1 w) :
    Calls Tryd.prog 41 #[.slice A 3 c] w (ObPost (nodeD a b d) w) := by
  obtain ⟨ad, u0, rfl, c0, k0, hb0⟩ := any_at (l := [a, b, d]) hA (i := 0) (x := a) rfl
  obtain ⟨ad1, u1, e1, c1, k1, hb1⟩ := any_at (l := [a, b, d]) hA (i := 1) (x := b) rfl
  obtain ⟨ad2, u2, e2, c2, k2, hb2⟩ := any_at (l := [a, b, d]) hA (i := 2) (x := d) rfl
  cases e1; cases e2
  rw [show ad.add 0 = ad from by simp [Addr.add]] at c0 hb0
  have c1 := three_at 1 (by decide) c1
  have c2 := three_at 2 (by decide) c2
  obtain ⟨s0, ta0, hs0⟩ := any_str k0
  obtain ⟨A2, n2, p2, ta2, hl2⟩ := any_list k2
  obtain ⟨W1, hW1⟩ : ∃ W1, W1 = w.alloc (.cells obZ 27) := ⟨_, rfl⟩
  have hn1 : Below w.heap.size w W1 := by rw [hW1]; exact (Below.refl _ _).alloc (Nat.le_refl _) _
  have hg1 : W1.heap[w.heap.size]? = some (.cells obZ 27 (0, 0)) := by rw [hW1]; exact alloc_lastV _ _
  have hs1 : W1.heap.size = w.heap.size + 1 := by rw [hW1]; simp
  have HT := Lib.hid (taken_calls b u1 W1 (k1.below hn1) hbl (Utf8Tabs_below hT hn1))
  have hcs : ∀ W, Below W1.heap.size W1 W → W.cell? ad = some u0 ∧ W.cell? ⟨ad.block, ad.off + 1, none⟩ = some u1 ∧ W.cell? ⟨ad.block, ad.off + 2, none⟩ = some u2 := fun W hW => by
    have h2 := hn1.trans (hW.mono hn1.size)
    exact ⟨pw_cell_below h2 c0, pw_cell_below h2 c1, pw_cell_below h2 c2⟩
  have HCS := Lib.hid hcs
  have HN1 := Lib.hid hn1
  have HG1 := Lib.hid hg1
  have HS1 := Lib.hid hs1
  have HL2 := Lib.hid hl2
  have HS0 := Lib.hid hs0
  unfold obZ at hW1
  have HW1 := Lib.hid hW1
  obtain ⟨RP, hRP⟩ : ∃ RP : Ending → World → Prop, RP = ObPost (nodeD a b d) w := ⟨_, rfl⟩
  rw [← hRP]
  unfold nodeD at hRP
  have HRP := Lib.hid hRP
  clear hA hs0 hl2 hcs hn1 hg1 hs1 hW1 hRP k0 k1 k2 hb1 hb2 hT
  generalize hb1e : decide (a.f0 = 2) = B1 at ta0
  generalize hb3e : isL d = B3 at ta2 HL2
  have HB1 := Lib.hid hb1e
  have HB3 := Lib.hid hb3e
  clear hb1e hb3e
  go_enter Tryd.func41, Tryd.ntmps41
  go_wp2_with fail
  rw [← HW1.out]
  refine HT.out.mono ?_
  rintro e W2 ⟨Ar, cr, rfl, hCr, hb2⟩
  generalize htk : (takenR b).1 = rws at hCr
  generalize htb : (takenR b).2 = B2
  obtain ⟨d0, d1, d2⟩ := HCS.out W2 hb2
  have hg2 := (hb2.block _ (Array.getElem?_eq_some_iff.1 HG1.out).1).trans HG1.out
  have hbw : Below w.heap.size w W2 := HN1.out.trans (hb2.mono HN1.out.size)
  unfold obZ at hg2
  have hs12 : w.heap.size < W2.heap.size := (Array.getElem?_eq_some_iff.1 hg2).1
  have HG2 := Lib.hid hg2
  have HBW := Lib.hid hbw
  have HS12 := Lib.hid hs12
  have HCR := Lib.hid hCr
  have HTK := Lib.hid (And.intro htk htb)
  have hnone : ((B1 && B2) && B3) = false → ∀ W, Below w.heap.size w W → W.heap[w.heap.size]? = some (.cells obZ 27 (0, 0)) → ∀ tmps : Array Value, tmps.getD 2 undef = .pointer (some ⟨w.heap.size, 0, none⟩) → tmps.getD 3 undef = .bool false →
      bodyPost Tryd.prog Tryd.f41 RP Exit.ret { tmps := tmps, defers := [] } W := fun h W hW hg tmps t2 t3 => by
    refine bodyPost_ret (results_ob ob_results _ _ w.heap.size _ _ _ _ _ _ _ _ _ t2 t3 hg) rfl ?_
    rw [HRP.out, if_neg (by
      rintro ⟨x1, x2, x3⟩
      rw [← HB1.out, ← HB3.out, ← HTK.out.2, decide_eq_true x1, x2, x3] at h
      cases h)]
    exact ⟨none, 0, none, 0, none, 0, rfl, ObR_zero _ _, hW⟩
  have HNONE := Lib.hid hnone
  clear htk htb hCr hb2 hg2 hbw c0 c1 c2 hnone hs12
  cases B1 with
  | false =>
    obtain ⟨⟨z0, z1, z2, z3⟩, z4, z5, z6, z7⟩ := box8 HG2.out
    obtain ⟨⟨f0, f1, f2, f3⟩, f4, f5, f6, f7⟩ := frozen8 HG2.out
    go_wp2_with fail
    refine HNONE.out (by first | rfl | simp) (put8 W2 w.heap.size (.int .i64 0) (.string (⟨#[]⟩ : ByteArray)) (.slice none 0 0) (.slice none 0 0) (.slice none 0 0) (.int .i64 0) (.string (⟨#[]⟩ : ByteArray)) (.string (⟨#[]⟩ : ByteArray))) (put8_below HBW.out (Nat.le_refl _) _ _ _ _ _ _ _ _) (put8_same HG2.out _ _ _ _ _ _ _ _) _ rfl rfl
  | true =>
    cases B2 with
    | false =>
      obtain ⟨⟨z0, z1, z2, z3⟩, z4, z5, z6, z7⟩ := box8 HG2.out
      obtain ⟨⟨f0, f1, f2, f3⟩, f4, f5, f6, f7⟩ := frozen8 HG2.out
      go_wp2_with fail
      refine HNONE.out (by first | rfl | simp) (put8 W2 w.heap.size (.int .i64 0) (.string (⟨#[]⟩ : ByteArray)) (.slice none 0 0) (.slice none 0 0) (.slice none 0 0) (.int .i64 0) (.string (⟨#[]⟩ : ByteArray)) (.string (⟨#[]⟩ : ByteArray))) (put8_below HBW.out (Nat.le_refl _) _ _ _ _ _ _ _ _) (put8_same HG2.out _ _ _ _ _ _ _ _) _ rfl rfl
    | true =>
      cases B3 with
      | false =>
        obtain ⟨⟨z0, z1, z2, z3⟩, z4, z5, z6, z7⟩ := box8 HG2.out
        obtain ⟨⟨f0, f1, f2, f3⟩, f4, f5, f6, f7⟩ := frozen8 HG2.out
        go_wp2_with fail
        refine HNONE.out (by first | rfl | simp) (put8 W2 w.heap.size (.int .i64 0) (.string (⟨#[]⟩ : ByteArray)) (.slice none 0 0) (.slice none 0 0) (.slice none 0 0) (.int .i64 0) (.string (⟨#[]⟩ : ByteArray)) (.string (⟨#[]⟩ : ByteArray))) (put8_below HBW.out (Nat.le_refl _) _ _ _ _ _ _ _ _) (put8_same HG2.out _ _ _ _ _ _ _ _) _ rfl rfl
      | true =>
        obtain ⟨hn2, hn2c, hC2⟩ := HL2.out rfl
        obtain ⟨l, hl⟩ : ∃ l, l = d.f3 := ⟨_, rfl⟩
        rw [← hl] at hn2 hC2 hdl
        subst hn2
        obtain ⟨K, hK⟩ : ∃ K, K = kidsD l := ⟨_, rfl⟩
        have hfin : ∀ e W, RP e W ↔ ObPost (K.map fun ks => ⟨1, s0, rws, ks, [], 0, ⟨#[]⟩, ⟨#[]⟩⟩) w e W := fun e W => by
          have x1 : a.f0 = 2 := of_decide_eq_true HB1.out
          rw [HRP.out, if_pos ⟨x1, HTK.out.2, HB3.out⟩, hK, hl, ← HS0.out x1, HTK.out.1]
        have HFIN := Lib.hid hfin
        have HC2 := Lib.hid (Kd.C_below hC2 HBW.out)
        have HKK := Lib.hid (show K = (kidsD (l.drop 0)).map (([] : List S60) ++ ·) by rw [hK, List.drop_zero]; simp)
        clear hfin hC2 hK hl HNONE
        go_wp2_with fail
        obtain ⟨W3, hW3⟩ : ∃ W3, W3 = W2.alloc (.cells #[.int .i64 1, .string s0, .slice Ar rws.length cr, .slice none 0 0, .slice none 0 0, .int .i64 0, .string (⟨#[]⟩ : ByteArray), .string (⟨#[]⟩ : ByteArray)] 27) := ⟨_, rfl⟩
        rw [← hW3]
        have hni : NodeIn W2 W2.heap.size s0 (.slice Ar rws.length cr) (.slice none 0 0) [] W3 :=
          ⟨by rw [hW3]; exact (Below.refl _ _).alloc (Nat.le_refl _) _, Nat.le_refl _, by rw [hW3]; exact alloc_lastV _ _, Kd.R_nil _ _ _ _ _⟩
        have HNI := Lib.hid hni
        clear hni hW3 d0 d1 d2
        go_loopw [52] (fun i wr => ∃ (j : Nat) (acc : List S60) (v : Value), i = .int .i64 (j : Int) ∧ j ≤ l.length ∧ acc.length = j ∧ NodeIn W2 W2.heap.size s0 (.slice Ar rws.length cr) v acc wr ∧ Hid (K = (kidsD (l.drop j)).map (acc ++ ·))) (fun i _ => l.length - (intOf i).toNat)
        case atStart => exact ⟨0, [], _, rfl, Nat.zero_le _, rfl, HNI.out, HKK⟩
        case round =>
          obtain ⟨i, acc, v, rfl, hi, hal, hni, hr⟩ := hrel
          obtain ⟨Av, cv, rfl, hvc, hvC⟩ := Kd.R_reads hni.row
          have HNJ := Lib.hid hni
          have HAL := Lib.hid hal
          have HBR := Lib.hid (HBW.out.trans (hni.below.mono HBW.out.size))
          have HGR := Lib.hid ((hni.below.block _ HS12.out).trans HG2.out)
          by_cases hil : i < l.length
          · obtain ⟨x, hx⟩ : ∃ x, l[i]? = some x := ⟨_, List.getElem?_eq_getElem hil⟩
            obtain ⟨ad', u, rfl, c0, hu, hbk⟩ := any_at (Kd.C_below HC2.out hni.below) hx
            have hr2 := hr.out
            rw [kidsD_step hx] at hr2
            have HR2 := Lib.hid hr2
            have hcall := kid_calls x u wr hu
            clear hr2 hr hx hu hni hal hvC
            cases hkd : kidD x with
            | none =>
              rw [hkd] at hcall HR2
              have HC := Lib.hid hcall
              have hK : K = none := HR2.out
              have HK := Lib.hid hK
              clear hcall hkd HR2 hK
              go_wp2_with fail
              refine HC.out.mono ?_
              rintro e W4 ⟨rfl, hb4⟩
              have hb4w := HBR.out.trans (hb4.mono HBR.out.size)
              have hg4 := (hb4.block _ (Array.getElem?_eq_some_iff.1 HGR.out).1).trans HGR.out
              obtain ⟨W5, hW5⟩ : ∃ W5, W5 = W4.alloc (.cells #[.int .u8 0, .string (⟨#[]⟩ : ByteArray)] 60) := ⟨_, rfl⟩
              have hn5 : Below W4.heap.size W4 W5 := by rw [hW5]; exact (Below.refl _ _).alloc (Nat.le_refl _) _
              have hg5 := (hn5.block _ (Array.getElem?_eq_some_iff.1 hg4).1).trans hg4
              have hb5 := hb4w.trans (hn5.mono hb4w.size)
              obtain ⟨⟨z0, z1, z2, z3⟩, z4, z5, z6, z7⟩ := box8 hg5
              obtain ⟨⟨f0, f1, f2, f3⟩, f4, f5, f6, f7⟩ := frozen8 hg5
              have HG5 := Lib.hid hg5
              have HB5 := Lib.hid hb5
              rw [hW5] at z0 z1 z2 z3 z4 z5 z6 z7 f0 f1 f2 f3 f4 f5 f6 f7
              have HW5 := Lib.hid hW5
              clear hb4 hb4w hg4 hn5 hg5 hb5 hW5
              unfold kidVal z60
              simp only [Option.getD_none, Option.isSome_none]
              go_wp2_with fail
              rw [← HW5.out]
              refine bodyPost_ret (results_ob ob_results _ _ w.heap.size _ _ _ _ _ _ _ _ _ rfl rfl (put8_same HG5.out (.int .i64 0) (.string (⟨#[]⟩ : ByteArray)) (.slice none 0 0) (.slice none 0 0) (.slice none 0 0) (.int .i64 0) (.string (⟨#[]⟩ : ByteArray)) (.string (⟨#[]⟩ : ByteArray)))) rfl ?_
              rw [HFIN.out, HK.out]
              exact ⟨none, 0, none, 0, none, 0, rfl, ObR_zero _ _, put8_below HB5.out (Nat.le_refl _) _ _ _ _ _ _ _ _⟩
            | some y =>
              rw [hkd] at hcall HR2
              have HC := Lib.hid hcall
              clear hcall hkd
              go_wp2_with fail
              refine HC.out.mono ?_
              rintro e W4 ⟨rfl, hb4⟩
              obtain ⟨W5, hW5⟩ : ∃ W5, W5 = W4.alloc (.cells #[.int .u8 y.f0, .string y.f1] 60) := ⟨_, rfl⟩
              have hn5 : Below W4.heap.size W4 W5 := by rw [hW5]; exact (Below.refl _ _).alloc (Nat.le_refl _) _
              obtain ⟨W6, hW6⟩ : ∃ W6, W6 = W5.alloc (.cells #[.int .u8 y.f0, .string y.f1] 60) := ⟨_, rfl⟩
              have hn6 : Below W5.heap.size W5 W6 := by rw [hW6]; exact (Below.refl _ _).alloc (Nat.le_refl _) _
              have hg6 : W6.heap[W5.heap.size]? = some (.cells #[.int .u8 y.f0, .string y.f1] 60 (0, 0)) := by rw [hW6]; exact alloc_lastV _ _
              have hbw6 : Below wr.heap.size wr W6 := (hb4.trans (hn5.mono hb4.size)).trans (hn6.mono (Nat.le_trans hb4.size hn5.size))
              have hni6 := HNJ.out.later hbw6
              have hni5 := HNJ.out.later (hb4.trans (hn5.mono hb4.size))
              have hgl := (Array.getElem?_eq_some_iff.1 hni6.blk).1
              obtain ⟨v8, W8, hr8, hg8, hR8⟩ := append_kid (b0 := W2.heap.size + 1) hni6.row (by omega) hg6 (by have := HAL.out; omega) 24
              obtain ⟨A8, c8, rfl, _, _⟩ := Kd.R_reads hR8
              have hst := hni6.step hg8 hR8
              obtain ⟨_, inner, hown, _⟩ := hni6.row
              have hblk8 := (hg8.block W2.heap.size hgl (fun e => by have := own_base hown _ e.symm; omega)).trans hni6.blk
              have y3 : W8.cell? ⟨W2.heap.size, 3, none⟩ = some (.slice Av acc.length cv) := (box8 hblk8).1.2.2.2
              have x3 : W8.frozen? ⟨W2.heap.size, 3, none⟩ = false := Lib.frozen_of_heap hblk8 3
              have w3 : W5.cell? ⟨W2.heap.size, 3, none⟩ = some (.slice Av acc.length cv) := (box8 hni5.blk).1.2.2.2
              have HST := Lib.hid hst
              have hs5 : W5.heap.size = W4.heap.size + 1 := by rw [hW5]; simp
              rw [hs5, hW6, hW5] at hr8
              have HAPP := Lib.hid hr8
              rw [hW5] at w3
              have HR9 := Lib.hid (show K = (kidsD (l.drop (i + 1))).map ((acc ++ [y]) ++ ·) by
                rw [HR2.out, Option.map_map]; congr 1; funext z; simp)
              clear hst hR8 hg8 hni6 hni5 hbw6 hg6 hn6 hW6 hn5 hW5 hb4 hr8 hs5 hown hblk8 hgl
              unfold kidVal
              simp only [Option.getD_some, Option.isSome_some]
              go_wp2_with (refine wpList_value rfl (exec_append _ _ 24 rfl HAPP.out) ?_)
              go_roundw
              case rel => exact ⟨i + 1, acc ++ [y], _, by go_num, hil, by rw [List.length_append]; have := HAL.out; simp; omega, by have := HST.out; rwa [List.length_append, List.length_singleton] at this, HR9⟩
              case measure => simp [intOf]; omega
          · have hie : i = l.length := by omega
            have hr2 := hr.out
            rw [hie, List.drop_length, kidsD, Option.map_some, List.append_nil] at hr2
            have HK := Lib.hid hr2
            obtain ⟨⟨z0, z1, z2, z3⟩, z4, z5, z6, z7⟩ := box8 HGR.out
            obtain ⟨⟨f0, f1, f2, f3⟩, f4, f5, f6, f7⟩ := frozen8 HGR.out
            obtain ⟨⟨y0, y1, y2, y3⟩, y4, y5, y6, y7⟩ := box8 hni.blk
            have hp := put8_below (B := w.heap.size) HBR.out (Nat.le_refl _) (.int .i64 1) (.string s0) (.slice Ar rws.length cr) (.slice Av acc.length cv) (.slice none 0 0) (.int .i64 0) (.string (⟨#[]⟩ : ByteArray)) (.string (⟨#[]⟩ : ByteArray))
            have hsm := put8_same HGR.out (.int .i64 1) (.string s0) (.slice Ar rws.length cr) (.slice Av acc.length cv) (.slice none 0 0) (.int .i64 0) (.string (⟨#[]⟩ : ByteArray)) (.string (⟨#[]⟩ : ByteArray))
            have hob : ObR (put8 wr w.heap.size (.int .i64 1) (.string s0) (.slice Ar rws.length cr) (.slice Av acc.length cv) (.slice none 0 0) (.int .i64 0) (.string (⟨#[]⟩ : ByteArray)) (.string (⟨#[]⟩ : ByteArray))) w.heap.size ⟨1, s0, rws, acc, [], 0, ⟨#[]⟩, ⟨#[]⟩⟩ Ar cr Av cv none 0 := by
              have h1 : ObR wr W1.heap.size ⟨1, s0, rws, acc, [], 0, ⟨#[]⟩, ⟨#[]⟩⟩ Ar cr Av cv none 0 := ⟨Kd.R_below HCR.out hni.below, Kd.R_lower hni.row (by have := HS12.out; have := HS1.out; omega), Kd.R_nil _ _ _ _ _⟩
              exact h1.move (fun k hk _ => put8_far (by have := HS1.out; omega) _ _ _ _ _ _ _ _) (by have := HS1.out; omega)
            have HP := Lib.hid hp
            have HSM := Lib.hid hsm
            have HOB := Lib.hid hob
            clear hie hr2 hr hni hvC hal hp hsm hob
            go_wp2_with fail
            refine bodyPost_ret (results_ob ob_results _ _ w.heap.size _ _ _ _ _ _ _ _ _ rfl rfl HSM.out) rfl ?_
            rw [HFIN.out, HK.out]
            exact ⟨Ar, cr, Av, cv, none, 0, rfl, HOB.out, HP.out⟩
end Go.Proofs.YtgjlchcfdbmmlaaDoor.PObjectTakes
