/- Things in memory that lie apart; the drum's methods over them. -/
import Derived.Test.YtjnbdikhajnciaaEl
namespace Go.Proofs.Ytjnbdikhajnciaa.Drum
open Go.RowKit Go.Proofs.Ytjnbdikhajnciaa.Ord Go.Proofs.YtjnbdikhajnciaaW.PrintWords Go.Proofs.Ytjnbdikhajnciaa.Base
set_option linter.unusedVariables false

/-- Something that lies in memory: what is said of it, and its blocks. -/
structure Thing where
  P : World → Prop
  F : Nat → Prop
  kept : ∀ (W W' : World) (G : Nat → Prop), P W → Mod G W W' → (∀ k, F k → ¬ G k) → P W'
  lt : ∀ (W : World), P W → ∀ k, F k → k < W.heap.size
def Thing.apart (a b : Thing) : Prop := ∀ k, a.F k → ¬ b.F k
/-- From w on, beyond block B, there are these things, each apart from the others. -/
structure Sep (B : Nat) (w W : World) (l : List Thing) : Prop where
  below : Below B w W
  le : B ≤ W.heap.size
  all : ∀ t ∈ l, t.P W ∧ ∀ k, t.F k → B ≤ k
  apart : l.Pairwise Thing.apart
theorem Sep.start (w : World) : Sep w.heap.size w w [] := ⟨Below.refl _ _, Nat.le_refl _, fun _ h => (by cases h), List.Pairwise.nil⟩
theorem Sep.turn {B : Nat} {w W W' : World} {t t' : Thing} {l : List Thing} (h : Sep B w W (t :: l)) (hm : Mod t.F W W') (ht : t'.P W') (hF : ∀ k, t'.F k → t.F k ∨ W.heap.size ≤ k) : Sep B w W' (t' :: l) := by
  have hp := List.pairwise_cons.1 h.apart
  have h0 := h.all t List.mem_cons_self
  refine ⟨h.below.trans (hm.below h.le h0.2), Nat.le_trans h.le hm.size, fun x hx => ?_, List.pairwise_cons.2 ⟨fun y hy k hk hy' => ?_, hp.2⟩⟩
  · rcases List.mem_cons.1 hx with rfl | hx
    · exact ⟨ht, fun k hk => by rcases hF k hk with e | e; exact h0.2 k e; exact Nat.le_trans h.le e⟩
    · have := h.all x (List.mem_cons_of_mem _ hx)
      exact ⟨x.kept _ _ _ this.1 hm (fun k hk hk' => hp.1 x hx k hk' hk), this.2⟩
  · have hy0 := h.all y (List.mem_cons_of_mem _ hy)
    rcases hF k hk with e | e
    · exact hp.1 y hy k e hy'
    · have := y.lt _ hy0.1 k hy'; omega
theorem Sep.new {B : Nat} {w W W' : World} {t : Thing} {l : List Thing} (h : Sep B w W l) (hn : NewMem W W') (ht : t.P W') (hF : ∀ k, t.F k → W.heap.size ≤ k) : Sep B w W' (t :: l) := by
  refine ⟨h.below.trans (hn.mono h.le), Nat.le_trans h.le hn.size, fun x hx => ?_, List.pairwise_cons.2 ⟨fun y hy k hk hy' => ?_, h.apart⟩⟩
  · rcases List.mem_cons.1 hx with rfl | hx
    · exact ⟨ht, fun k hk => Nat.le_trans h.le (hF k hk)⟩
    · have := h.all x hx
      exact ⟨x.kept _ _ (fun _ => False) this.1 (Mod.of_below hn) (fun _ _ => id), this.2⟩
  · have := y.lt _ (h.all y hy).1 k hy'
    have := hF k hk; omega
theorem Sep.grown {B : Nat} {w W W' : World} {l : List Thing} (h : Sep B w W l) (hn : NewMem W W') : Sep B w W' l :=
  ⟨h.below.trans (hn.mono h.le), Nat.le_trans h.le hn.size, fun x hx => ⟨x.kept _ _ (fun _ => False) (h.all x hx).1 (Mod.of_below hn) (fun _ _ => id), (h.all x hx).2⟩, h.apart⟩
theorem Thing.apart_symm {a b : Thing} (h : a.apart b) : b.apart a := fun k hb ha => h k ha hb
theorem Sep.perm {B : Nat} {w W : World} {l l' : List Thing} (h : Sep B w W l) (hp : l.Perm l') : Sep B w W l' :=
  ⟨h.below, h.le, fun t ht => h.all t (hp.mem_iff.2 ht), hp.pairwise h.apart Thing.apart_symm⟩
theorem Sep.swap {B : Nat} {w W : World} {a b : Thing} {l : List Thing} (h : Sep B w W (a :: b :: l)) : Sep B w W (b :: a :: l) := h.perm (List.Perm.swap b a l)
theorem Sep.tail {B : Nat} {w W : World} {a : Thing} {l : List Thing} (h : Sep B w W (a :: l)) : Sep B w W l :=
  ⟨h.below, h.le, fun t ht => h.all t (List.mem_cons_of_mem _ ht), (List.pairwise_cons.1 h.apart).2⟩
theorem Sep.drewN {B : Nat} {w W : World} {l : List Thing} (h : Sep B w W l) (n : Nat) : Sep B w (W.drewN n) l := h.grown (below_drewN' (Below.refl _ _))
theorem Sep.drew {B : Nat} {w W : World} {l : List Thing} (h : Sep B w W l) : Sep B w W.drew l := h.drewN 1

/-- A drum. -/
def drumT (b sb cap : Nat) (lv : Value) (D : DS) : Thing where
  P := fun W => DrumAt W b sb cap lv D
  F := foot b sb lv
  kept := fun W W' G h hm hG => h.kept hm hG
  lt := fun W h k hk => by
    rcases hk with rfl | rfl | hk
    · exact h.cell.lt
    · exact (h.sure.lt _ rfl).2
    · exact (h.loose.lt k hk).2
def IsDrum (b : Nat) (D : DS) (t : Thing) : Prop := ∃ sb cap lv, t = drumT b sb cap lv D
/-- A call that turned a drum to D'. -/
def Turned (B : Nat) (w : World) (l : List Thing) (b : Nat) (r : Int × DS) (e : Ending) (W' : World) : Prop := ∃ t, e = .returned (.int .i64 r.1) ∧ IsDrum b r.2 t ∧ Sep B w W' (t :: l)
theorem Turned.of_did {B : Nat} {w W W' : World} {l : List Thing} {b sb cap : Nat} {lv : Value} {D : DS} {r : Int × DS} {e : Ending} (h : Sep B w W (drumT b sb cap lv D :: l)) (hd : Did W b sb cap lv r e W') : Turned B w l b r e W' := by
  obtain ⟨lv', he, hat, hlv, hm⟩ := hd
  refine ⟨drumT b sb cap lv' r.2, he, ⟨_, _, _, rfl⟩, h.turn hm hat (fun k hk => ?_)⟩
  rcases hk with rfl | rfl | hk
  · exact .inl (.inl rfl)
  · exact .inl (.inr (.inl rfl))
  · rcases hlv k hk with e | e
    · exact .inl (.inr (.inr e))
    · exact .inr e
section
variable {B : Nat} {w W : World} {l : List Thing} {b : Nat} {D : DS} {t : Thing}
theorem write_sep (h : Sep B w W (t :: l)) (ht : IsDrum b D t) (i : Int) (s : ByteArray) (hs : s.size ≤ 1000000) (hn : D.loose.length ≤ 1000000) :
    Calls Try.prog 24 #[.pointer (some ⟨b, 0, none⟩), .int .i64 i, .string s] W (Turned B w l b (D.write i s.data.toList)) := by
  obtain ⟨sb, cap, lv, rfl⟩ := ht
  exact (write_at b sb cap lv D i s W (h.all _ List.mem_cons_self).1 hs hn).mono fun e W' hd => Turned.of_did h hd
theorem settle_sep (h : Sep B w W (t :: l)) (ht : IsDrum b D t) (hn : D.loose.length ≤ 1000000) :
    Calls Try.prog 29 #[.pointer (some ⟨b, 0, none⟩)] W (Turned B w l b D.settle) := by
  obtain ⟨sb, cap, lv, rfl⟩ := ht
  exact (settle_at b sb cap lv D W (h.all _ List.mem_cons_self).1 hn).mono fun e W' hd => Turned.of_did h hd
theorem crash_sep (h : Sep B w W (t :: l)) (ht : IsDrum b D t) (hn : D.loose.length ≤ 1000000) (a : Option Addr) (n kc : Nat) (zs : List Int) (hz : IntsAt W a n zs) (ha : 0 < n → ∀ ad, a = some ad → ¬ t.F ad.block) :
    Calls Try.prog 22 #[.pointer (some ⟨b, 0, none⟩), .slice a n kc] W (Turned B w l b (0, D.crash zs)) := by
  obtain ⟨sb, cap, lv, rfl⟩ := ht
  exact (crash_at b sb cap lv D a n kc zs W (h.all _ List.mem_cons_self).1 hn hz (fun h0 ad e x => ha h0 ad e (.inr (.inl x)))).mono fun e W' hd => Turned.of_did h hd
def DS.arm (D : DS) (i : Int) : Int × DS := if i < 0 then (2, D) else if D.down then (9, D) else (0, { D with armed := true, left := i })
theorem arm_sep (h : Sep B w W (t :: l)) (ht : IsDrum b D t) (i : Int) :
    Calls Try.prog 23 #[.pointer (some ⟨b, 0, none⟩), .int .i64 i] W (Turned B w l b (D.arm i)) := by
  obtain ⟨sb, cap, lv, rfl⟩ := ht
  have hd : DrumAt W b sb cap lv D := (h.all _ List.mem_cons_self).1
  refine (arm_at b _ _ _ lv _ _ _ i W hd.cell hd.pos).mono fun e W' hx => ?_
  refine Turned.of_did h ?_
  unfold DS.arm
  rcases hx with ⟨hi, he, rfl⟩ | ⟨hi, hdn, he, rfl⟩ | ⟨hi, hdn, he, hc, hm⟩
  · rw [if_pos hi, he]; exact Did.same hd 2
  · rw [if_neg (by omega), if_pos hdn, he]; exact Did.same hd 9
  · rw [if_neg (by omega), if_neg (by rw [hdn]; simp)]
    exact ⟨lv, he, ⟨hc, ownsRow_mod hd.sure hm (fun k hk e => hd.ne (by subst e; simpa [Value.ownBlock] using hk.symm)), ownsRow_mod hd.loose hm (fun k hk e => hd.nel (by rw [hk, e])), hd.ne, hd.nel, hd.nes, hd.pos, hd.few, hd.wsure, hd.wloose⟩, fun k hk => .inl hk, hm.mono (fun _ e => .inl e)⟩
theorem read_sep (h : Sep B w W (t :: l)) (ht : IsDrum b D t) (hn : D.loose.length ≤ 1000000) (i : Int) :
    Calls Try.prog 26 #[.pointer (some ⟨b, 0, none⟩), .int .i64 i] W fun e W' => e = .returned (.tuple #[.string ⟨(D.read i).1.toArray⟩, .int .i64 (D.read i).2]) ∧ Sep B w W' (t :: l) := by
  obtain ⟨sb, cap, lv, rfl⟩ := ht
  exact (read_at b sb cap lv D i W (h.all _ List.mem_cons_self).1 hn).mono fun e W' ⟨he, hm⟩ => ⟨he, h.grown hm⟩
theorem sure_sep (h : Sep B w W (t :: l)) (ht : IsDrum b D t) (i : Int) :
    Calls Try.prog 34 #[.pointer (some ⟨b, 0, none⟩), .int .i64 i] W fun e W' => e = .returned (.string ⟨(D.sureText i).toArray⟩) ∧ Sep B w W' (t :: l) := by
  obtain ⟨sb, cap, lv, rfl⟩ := ht
  exact (sure_at b sb cap lv D i W (h.all _ List.mem_cons_self).1).mono fun e W' ⟨he, hm⟩ => ⟨he, h.grown hm⟩
theorem loose_sep (h : Sep B w W (t :: l)) (ht : IsDrum b D t) :
    Calls Try.prog 28 #[.pointer (some ⟨b, 0, none⟩)] W fun e W' => e = .returned (.int .i64 (D.loose.length : Int)) ∧ W = W' := by
  obtain ⟨sb, cap, lv, rfl⟩ := ht
  have hd : DrumAt W b sb cap lv D := (h.all _ List.mem_cons_self).1
  obtain ⟨a, cp, hlv⟩ : ∃ a cp, lv = .slice a D.loose.length cp := by
    rcases hd.loose.2 with ⟨e, h0⟩ | ⟨g, cp, cur, e, _⟩
    · exact ⟨none, 0, by rw [e, h0]⟩
    · exact ⟨_, cp, e⟩
  exact loose_of b _ a _ _ _ cp W hd.cell.cells.1 (hlv ▸ hd.cell.cells.2.1) hd.pos
theorem size_sep (h : Sep B w W (t :: l)) (ht : IsDrum b D t) :
    Calls Try.prog 41 #[.pointer (some ⟨b, 0, none⟩)] W fun e W' => e = .returned (.int .i64 (D.sure.length : Int)) ∧ W = W' := by
  obtain ⟨sb, cap, lv, rfl⟩ := ht
  have hd : DrumAt W b sb cap lv D := (h.all _ List.mem_cons_self).1
  exact size_of b _ _ _ W hd.cell.cells.1 hd.pos
theorem down_sep (h : Sep B w W (t :: l)) (ht : IsDrum b D t) :
    Calls Try.prog 27 #[.pointer (some ⟨b, 0, none⟩)] W fun e W' => e = .returned (.bool D.down) ∧ W = W' := by
  obtain ⟨sb, cap, lv, rfl⟩ := ht
  have hd : DrumAt W b sb cap lv D := (h.all _ List.mem_cons_self).1
  exact down_of b _ _ _ _ W hd.cell.cells.1 hd.cell.cells.2.2.2.2 hd.pos
/-- A pointer to a drum of its own. -/
def Made (B : Nat) (w : World) (l : List Thing) (D : DS) (v : Value) (W' : World) : Prop := ∃ b t, v = .pointer (some ⟨b, 0, none⟩) ∧ IsDrum b D t ∧ Sep B w W' (t :: l)
theorem copy_sep (h : Sep B w W (t :: l)) (ht : IsDrum b D t) (hn : D.loose.length ≤ 1000000) :
    Calls Try.prog 35 #[.pointer (some ⟨b, 0, none⟩)] W fun e W' => ∃ v, e = .returned v ∧ Made B w (t :: l) D v W' := by
  obtain ⟨sb, cap, lv, rfl⟩ := ht
  refine (copy_at b sb cap lv D W (h.all _ List.mem_cons_self).1 hn).mono fun e W' ⟨b', sb', cap', lv', he, h1, h2, h3, hd, hm⟩ => ?_
  refine ⟨_, he, b', drumT b' sb' cap' lv' D, rfl, ⟨_, _, _, rfl⟩, h.new hm hd (fun k hk => ?_)⟩
  rcases hk with rfl | rfl | hk
  · exact h1
  · exact h2
  · exact h3 k hk
theorem new_sep (h : Sep B w W l) (n : Nat) (h0 : 0 < n) (hn : n ≤ 4096) :
    Calls Try.prog 36 #[.int .i64 (n : Int)] W fun e W' => ∃ v, e = .returned (.tuple #[v, .int .i64 0]) ∧ Made B w l (DS.zero n) v W' := by
  refine (new_ok n h0 hn W).mono fun e W' ⟨b', sb', cap', he, h1, h2, hd, hm⟩ => ?_
  refine ⟨_, he, b', drumT b' sb' cap' (.slice none 0 0) (DS.zero n), rfl, ⟨_, _, _, rfl⟩, h.new hm hd (fun k hk => ?_)⟩
  rcases hk with rfl | rfl | hk
  · exact h1
  · exact h2
  · simp [Value.ownBlock] at hk
end
end Go.Proofs.Ytjnbdikhajnciaa.Drum
