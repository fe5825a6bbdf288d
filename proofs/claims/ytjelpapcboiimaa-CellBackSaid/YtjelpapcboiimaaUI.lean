/- A row of cells that a call makes one by one: what holds between the rounds. -/
import Derived.Test.YtjelpapcboiimaaUG
import Derived.Test.YtjelpapcboiimaaRp
import Derived.Test.YtjelpapcboiimaaOx
import Derived.Deep.AppendLies
namespace Go.Proofs.Ytjelpapcboiimaa.PCellPuts
open Go.RowKit Go.Proofs.Ytjelpapcboiimaa.Ord Go.Proofs.YtjelpapcboiimaaW.PrintWords Go.Proofs.YtjelpapcboiimaaW.PrintLast Go.Proofs.YtjelpapcboiimaaW.PrintMore
set_option linter.unusedVariables false
set_option linter.unusedSimpArgs false

theorem R_slice {α : Type} {d : Kd α} {e : Nat} {w : World} {base : Nat} {ok : Nat → Prop} {v : Value} {xs : List α} (h : d.R e w base ok v xs) : ∃ A c, v = .slice A xs.length c := by
  obtain ⟨A, c, hv, _⟩ := Kd.R_reads h
  exact ⟨A, c, hv⟩
theorem ModB.put {b : Nat} {w W : World} (h : ModB b w W) (g : Nat) (hg : w.heap.size ≤ g) (j : Nat) (v : Value) : ModB b w (W.setCell ⟨g, j, none⟩ v) :=
  ⟨h.os, h.tape, h.output, by have := h.size; simpa [World.setCell] using this, fun k hk hb => (Below.heap_setCell _ _ _ _ (show k ≠ g by omega)).trans (h.block k hk hb)⟩
theorem RdAt.put {b : Nat} {s : ByteArray} {q : Nat} {W : World} (h : RdAt b s q W) (g : Nat) (hg : b ≠ g) (j : Nat) (v : Value) : RdAt b s q (W.setCell ⟨g, j, none⟩ v) :=
  (Below.heap_setCell W ⟨g, j, none⟩ v b hg).trans h
/-- The row's blocks: neither the reader's nor any up to the variable's. -/
def okR (b g : Nat) (k : Nat) : Prop := k ≠ b ∧ g < k
/-- Between rounds: the variable in block g holds the row v of acc; the reader stands at q. -/
structure OutAt (W1 : World) (b g : Nat) (s : ByteArray) (v : Value) (acc : List S25) (q : Nat) (W : World) : Prop where
  mod : ModB b W1 W
  ge : W1.heap.size ≤ g
  lt : b < W1.heap.size
  blk : W.heap[g]? = some (.cells #[.int .i64 3, .int .i64 0, .string (⟨#[]⟩ : ByteArray), v] 25 (0, 0))
  row : Kd.R k25 25 W (g + 1) (okR b g) v acc
  rd : RdAt b s q W
/-- Blocks of the row v may have turned, and the reader. -/
structure ModV (b : Nat) (v : Value) (w w' : World) : Prop where
  os : w'.os = w.os
  tape : w'.tape = w.tape
  output : w'.output = w.output
  size : w.heap.size ≤ w'.heap.size
  block : ∀ k, k < w.heap.size → k ≠ b → v.ownBlock ≠ some k → w'.heap[k]? = w.heap[k]?
theorem ModV.refl (b : Nat) (v : Value) (w : World) : ModV b v w w := ⟨rfl, rfl, rfl, Nat.le_refl _, fun _ _ _ _ => rfl⟩
theorem ModV.trans {b : Nat} {v : Value} {w w1 w2 : World} (h : ModV b v w w1) (k : ModV b v w1 w2) : ModV b v w w2 :=
  ⟨k.os.trans h.os, k.tape.trans h.tape, k.output.trans h.output, Nat.le_trans h.size k.size, fun i hi hb hv => (k.block i (Nat.lt_of_lt_of_le hi h.size) hb hv).trans (h.block i hi hb hv)⟩
theorem ModV.of_B {b : Nat} {v : Value} {w w' : World} (h : ModB b w w') : ModV b v w w' := ⟨h.os, h.tape, h.output, h.size, fun k hk hb _ => h.block k hk hb⟩
theorem ModV.drew {b : Nat} {v : Value} {w : World} : ModV b v w w.drew := ⟨rfl, rfl, rfl, Nat.le_refl _, fun _ _ _ _ => rfl⟩
theorem ModV.of_grown {b : Nat} {v : Value} {w w' : World} (h : w.grownBy w' v.ownBlock) : ModV b v w w' := ⟨h.os, h.tape, h.output, h.size, fun k hk _ hv => h.block k hk (fun e => hv e.symm)⟩
/-- Each operation's relation: the append (7) turns the row, the others the reader at most. -/
def Rr (b : Nat) (v : Value) (i : Nat) (a c : World) : Prop := if i = 7 then a.grownBy c v.ownBlock else ModB b a c
theorem Rr.modV {b : Nat} {v : Value} {i : Nat} {a c : World} (h : Rr b v i a c) : ModV b v a c := by
  unfold Rr at h
  split at h
  · exact ModV.of_grown h
  · exact ModV.of_B h
/-- What the call hands back. -/
def childP (b : Nat) (v : Value) (x : S25) (lo : Nat) (u : Value) (W : World) : Prop :=
  ∃ v3, u = .agg #[.int .i64 x.f0, .int .i64 x.f1, .string x.f2, v3] ∧ Kd.R k25 25 W lo (fun k => k ≠ b ∧ v.ownBlock ≠ some k) v3 x.f3
theorem childP.st {b : Nat} {v : Value} {x : S25} {lo : Nat} {u : Value} {W W' : World} (h : childP b v x lo u W) (hm : ModV b v W W') : childP b v x lo u W' := by
  obtain ⟨v3, e, hr⟩ := h
  exact ⟨v3, e, Kd.R_step hr (fun k hk hl => hm.block k hl hk.1 hk.2)⟩
/-- The literal of one cell. -/
def litP (b : Nat) (v : Value) (x : S25) (lo : Nat) (u : Value) (W : World) : Prop :=
  ∃ g v3, u = .slice (some ⟨g, 0, none⟩) 1 1 ∧ W.heap[g]? = some (.cells #[.int .i64 x.f0, .int .i64 x.f1, .string x.f2, v3] 25 (0, 0)) ∧ g ≠ b ∧ v.ownBlock ≠ some g ∧ v3.oneCell' = true ∧ Kd.R k25 25 W lo (fun k => k ≠ b ∧ v.ownBlock ≠ some k) v3 x.f3
theorem litP.st {b : Nat} {v : Value} {x : S25} {lo : Nat} {u : Value} {W W' : World} (h : litP b v x lo u W) (hm : ModV b v W W') : litP b v x lo u W' := by
  obtain ⟨g, v3, e, hg, hb, hv, h1, hr⟩ := h
  exact ⟨g, v3, e, (hm.block g (Array.getElem?_eq_some_iff.1 hg).1 hb hv).trans hg, hb, hv, h1, Kd.R_step hr (fun k hk hl => hm.block k hl hk.1 hk.2)⟩
/-- The row, one cell longer. -/
def rowP (b g : Nat) (xs : List S25) (u : Value) (W : World) : Prop := Kd.R k25 25 W (g + 1) (okR b g) u xs
theorem rowP.st {b g : Nat} {xs : List S25} {u : Value} {W W' : World} (h : rowP b g xs u W) (hm : ModB b W W') : rowP b g xs u W' := Kd.R_step h (fun k hk hl => hm.block k hl hk.1)
/-- What holds within the round's region, L telling which operations are over. -/
def InR (wr : World) (b g : Nat) (s : ByteArray) (v : Value) (acc : List S25) (q q' : Nat) (L : Nat → Bool) (W : World) : Prop :=
  ModV b v wr W ∧ (L 7 = false → Kd.R k25 25 W (g + 1) (okR b g) v acc) ∧ (L 5 = false → RdAt b s q W) ∧ (L 5 = true → RdAt b s q' W ∧ q ≤ q' ∧ q' ≤ s.size)
theorem own_lt_R {b g : Nat} {v : Value} {acc : List S25} {W : World} (h : Kd.R k25 25 W (g + 1) (okR b g) v acc) : ∀ k, v.ownBlock = some k → g < k ∧ k ≠ b ∧ k < W.heap.size := fun k hk => by
  have h0 := h.1 k hk
  obtain ⟨_, inner, ho, _⟩ := h
  exact ⟨h0.2, h0.1, own_lt ho k hk⟩
theorem infoCell : (Try.prog.info? 25).map (fun i => (i.zero, i.size, i.bytes)) = some (some (.agg #[.int .i64 0, .int .i64 0, .string (⟨#[]⟩ : ByteArray), .slice none 0 0]), 4, 56) := by kernel_rfl
/-- The append. -/
theorem append_cell {b g : Nat} {s : ByteArray} {v : Value} {acc : List S25} {q q' : Nat} {wr W : World} {L : Nat → Bool} {x : S25} {lo : Nat} {u : Value} (hS : InR wr b g s v acc q q' L W) (hL : L 7 = false) (hb : b < wr.heap.size) (hg : g < wr.heap.size) (hlo : g + 1 ≤ lo) (hlg : ∀ k, lo ≤ k → g < k)
    (h6 : litP b v x lo u W) (hn : acc.length ≤ 1000000) (ty : TypeId) :
    ∃ v' W', (Builtin.append_ #[23, 23] ty #[v, u]).run Try.prog W = .ok v' W' ∧ W.grownBy W' v.ownBlock ∧ rowP b g (acc ++ [x]) v' W' ∧ InR wr b g s v acc q q' (fun k => if k = 7 then true else L k) W' := by
  obtain ⟨hm, hrow, h5, h5'⟩ := hS
  have hR := hrow hL
  obtain ⟨g6, v3, rfl, hg6, hgb, hgv, h1, hr3⟩ := h6
  obtain ⟨i0, hi0, hz0, hz1, hz2⟩ := info_parts infoCell
  obtain ⟨h0, inner, hown, hreps⟩ := hR
  have hne := own_lt_R (hrow hL)
  have hbn : (acc.length + 1) * 56 ≤ 1000001 * 56 := Nat.mul_le_mul (by omega) (Nat.le_refl _)
  obtain ⟨h, cap, W', hr, hown', hgr, hat, _⟩ := run_append_lies (P := Try.prog) W 23 ty (g + 1) 25 i0 _ 4 56 Try.underlying23 hi0 hz0 hz1 hz2 (by rfl) (by decide) v acc.length _ hown ⟨g6, 0, none⟩ 1 1 [.int .i64 x.f0, .int .i64 x.f1, .string x.f2, v3]
    (by rfl) (World.news_of_block (cs := #[.int .i64 x.f0, .int .i64 x.f1, .string x.f2, v3]) hg6) (by
      intro u hu
      simp only [List.mem_cons, List.not_mem_nil, or_false] at hu
      rcases hu with rfl | rfl | rfl | rfl
      · rfl
      · rfl
      · rfl
      · exact h1) (by decide) (by unfold maxLen; omega) (by omega) (by have := hm.size; omega) W.heap.size rfl
  have hm3 : Kd.M k25 W (g + 1) (fun k => (k ≠ b ∧ v.ownBlock ≠ some k) ∧ lo ≤ k) x [.int .i64 x.f0, .int .i64 x.f1, .string x.f2, v3] :=
    k25_mkM W (g + 1) _ x (Kd.R_lower (Kd.R_mono (Kd.R_bound hr3) (fun k hk => ⟨hk.1, hk.2.1⟩)) hlo)
  have hres := Kd.R_appended (d := k25) (e := 25) (base := g + 1) (ok := okR b g) (W := W) (w1 := W') (v := v) (v1 := .slice (some ⟨h, 0, none⟩) (acc.length + 1) cap) h0 hreps hm3 (fun k hk => ⟨⟨hk.1.1, hlg k hk.2⟩, fun e => hk.1.2 e.symm⟩) (fun k hk => ⟨by have := hm.size; omega, by have := hm.size; omega⟩) hown' hgr
    (hat.elim (fun e => .inl (by rw [e]; rfl)) (fun e => .inr ⟨h, rfl, by omega⟩))
  refine ⟨_, W', hr, hgr, hres, hm.trans (ModV.of_grown hgr), fun e => (by cases e), fun e => ?_, fun e => ?_⟩
  · have hr := h5 e
    exact (hgr.block b (by have := hm.size; omega) (fun e => (hne b e.symm).2.1 rfl)).trans hr
  · have hr := h5' e
    exact ⟨(hgr.block b (by have := hm.size; omega) (fun e => (hne b e.symm).2.1 rfl)).trans hr.1, hr.2⟩
theorem Rr.of_B {b : Nat} {v : Value} {i : Nat} {a c : World} (hi : i ≠ 7) (h : ModB b a c) : Rr b v i a c := by unfold Rr; rw [if_neg hi]; exact h
theorem Rr.of_grown {b : Nat} {v : Value} {a c : World} (h : a.grownBy c v.ownBlock) : Rr b v 7 a c := by unfold Rr; rw [if_pos rfl]; exact h
theorem Rr.toB {b : Nat} {v : Value} {i : Nat} {a c : World} (hi : i ≠ 7) (h : Rr b v i a c) : ModB b a c := by unfold Rr at h; rw [if_neg hi] at h; exact h
/-- The call within the round. -/
theorem call_post {wr W w' : World} {b g : Nat} {s : ByteArray} {v : Value} {acc : List S25} {q q' : Nat} {L : Nat → Bool} {x : S25} {e : Ending} (hS : InR wr b g s v acc q q' L W) (hb : b < wr.heap.size) (hv : ∀ k, v.ownBlock = some k → k < wr.heap.size)
    (hp : CellPost (.ok x q') b s q W e w') : ∃ u, e = .returned u ∧ Rr b v 5 W w' ∧ childP b v x wr.heap.size u w' ∧ InR wr b g s v acc q q' (fun k => if k = 5 then true else L k) w' := by
  obtain ⟨hm, ⟨v3, he, hR⟩, hrd, hq⟩ := hp
  obtain ⟨h1, h2, h3, h4⟩ := hS
  refine ⟨_, he, Rr.of_B (by decide) hm, ⟨v3, rfl, ?_⟩, h1.trans (ModV.of_B hm), fun e => ?_, fun e => (by cases e), fun _ => ⟨hrd, hq⟩⟩
  · exact Kd.R_lower (Kd.R_mono (Kd.R_bound hR) (fun k hk => ⟨hk.1, fun e => by have := hv k e; have := h1.size; omega⟩)) h1.size
  · exact Kd.R_step (h2 e) (fun k hk hl => hm.block k hl hk.1)
/-- The literal within the round. -/
theorem lit_post {wr W : World} {b g : Nat} {s : ByteArray} {v v3 : Value} {acc : List S25} {q q' : Nat} {L : Nat → Bool} {x : S25} (hS : InR wr b g s v acc q q' L W) (hb : b < wr.heap.size) (hv : ∀ k, v.ownBlock = some k → k < wr.heap.size) (h1 : v3.oneCell' = true)
    (hR : Kd.R k25 25 W wr.heap.size (fun k => k ≠ b ∧ v.ownBlock ≠ some k) v3 x.f3) :
    Rr b v 6 W (W.alloc (.cells #[.int .i64 x.f0, .int .i64 x.f1, .string x.f2, v3] 25)) ∧ litP b v x wr.heap.size (.slice (some ⟨W.heap.size, 0, none⟩) 1 1) (W.alloc (.cells #[.int .i64 x.f0, .int .i64 x.f1, .string x.f2, v3] 25)) ∧
    InR wr b g s v acc q q' (fun k => if k = 6 then true else L k) (W.alloc (.cells #[.int .i64 x.f0, .int .i64 x.f1, .string x.f2, v3] 25)) := by
  obtain ⟨m1, m2, m3, m4⟩ := hS
  have hn : Below W.heap.size W (W.alloc (.cells #[.int .i64 x.f0, .int .i64 x.f1, .string x.f2, v3] 25)) := (Below.refl _ _).alloc (Nat.le_refl _) _
  refine ⟨Rr.of_B (by decide) (ModB.of_below hn), ⟨_, _, rfl, heap_alloc_last _ _, by have := m1.size; omega, fun e => by have := hv _ e; have := m1.size; omega, h1, Kd.R_below hR hn⟩, m1.trans (ModV.of_B (ModB.of_below hn)), fun e => Kd.R_below (m2 e) hn, fun e => (m3 e).kept hn, fun e => ⟨(m4 e).1.kept hn, (m4 e).2⟩⟩
/-- The facts of the round's region stay. -/
theorem facts_st {b g lo : Nat} {v : Value} {x : S25} {acc : List S25} {V0 V1 V2 V3 V4 : Value} : ∀ (i j : Nat) (u : Value) (w w' : World), i ≠ j →
    factM [eqM V0, eqM V1, eqM V2, eqM V3, eqM V4, childP b v x lo, litP b v x lo, rowP b g (acc ++ [x])] i u w → Rr b v j w w' → factM [eqM V0, eqM V1, eqM V2, eqM V3, eqM V4, childP b v x lo, litP b v x lo, rowP b g (acc ++ [x])] i u w'
  | 0, _, _, _, _, _, h, _ => h
  | 1, _, _, _, _, _, h, _ => h
  | 2, _, _, _, _, _, h, _ => h
  | 3, _, _, _, _, _, h, _ => h
  | 4, _, _, _, _, _, h, _ => h
  | 5, _, _, _, _, _, h, hR => childP.st h hR.modV
  | 6, _, _, _, _, _, h, hR => litP.st h hR.modV
  | 7, j, _, _, _, hij, h, hR => rowP.st h (Rr.toB (Ne.symm hij) hR)
  | n + 8, _, _, _, _, _, _, _ => trivial
/-- Nothing is handed back. -/
def badM : Value → World → Prop := fun _ _ => False
theorem facts_bad {b : Nat} {V0 V1 V2 V3 V4 V7 : Value} : ∀ (i j : Nat) (u : Value) (w w' : World), i ≠ j →
    factM [eqM V0, eqM V1, eqM V2, eqM V3, eqM V4, badM, badM, eqM V7] i u w → ModB b w w' → factM [eqM V0, eqM V1, eqM V2, eqM V3, eqM V4, badM, badM, eqM V7] i u w'
  | 0, _, _, _, _, _, h, _ => h
  | 1, _, _, _, _, _, h, _ => h
  | 2, _, _, _, _, _, h, _ => h
  | 3, _, _, _, _, _, h, _ => h
  | 4, _, _, _, _, _, h, _ => h
  | 5, _, _, _, _, _, h, _ => h
  | 6, _, _, _, _, _, h, _ => h
  | 7, _, _, _, _, _, h, _ => h
  | n + 8, _, _, _, _, _, _, _ => trivial
/-- The longer row stored. -/
theorem out_step {W1 wr W : World} {b g : Nat} {s : ByteArray} {v v7 : Value} {acc : List S25} {x : S25} {q q' : Nat} (ho : OutAt W1 b g s v acc q wr) (hm : ModV b v wr W) (hr : rowP b g (acc ++ [x]) v7 W) (hrd : RdAt b s q' W) :
    OutAt W1 b g s v7 (acc ++ [x]) q' (W.setCell ⟨g, 3, none⟩ v7) := by
  have hown := own_lt_R ho.row
  have hgl := (Array.getElem?_eq_some_iff.1 ho.blk).1
  have hgb : g ≠ b := by have := ho.lt; have := ho.ge; omega
  have hb := (hm.block g hgl hgb (fun e => Nat.lt_irrefl _ (hown _ e).1)).trans ho.blk
  have hm1 : ModB b W1 W := ⟨hm.os.trans ho.mod.os, hm.tape.trans ho.mod.tape, hm.output.trans ho.mod.output, Nat.le_trans ho.mod.size hm.size, fun k hk hkb =>
    (hm.block k (Nat.lt_of_lt_of_le hk ho.mod.size) hkb (fun e => by have := (hown _ e).1; have := ho.ge; omega)).trans (ho.mod.block k hk hkb)⟩
  exact ⟨hm1.put g ho.ge 3 v7, ho.ge, ho.lt, blk_put (cs := #[.int .i64 3, .int .i64 0, .string (⟨#[]⟩ : ByteArray), v]) hb 3 _ rfl,
    Kd.R_far (p := ⟨g, 3, none⟩) hr (fun k hk => Nat.ne_of_gt hk.2) v7, hrd.put g (Ne.symm hgb) 3 v7⟩
end Go.Proofs.Ytjelpapcboiimaa.PCellPuts
