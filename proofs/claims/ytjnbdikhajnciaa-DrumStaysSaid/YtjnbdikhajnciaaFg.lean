/- The document's drum among things that lie apart; both drums say the same. -/
import Derived.Test.YtjnbdikhajnciaaFf
namespace Go.Proofs.Ytjnbdikhajnciaa.Drum
open Go.RowKit Go.Proofs.Ytjnbdikhajnciaa.Ord Go.Proofs.YtjnbdikhajnciaaW.PrintWords Go.Proofs.Ytjnbdikhajnciaa.Base
set_option linter.unusedVariables false
set_option linter.unusedSimpArgs false

/-- The document's drum. -/
def refT (b : Nat) (sv wv : Value) (R : RS) : Thing where
  P := fun W => RefAt W b sv wv R
  F := rfoot b sv wv
  kept := fun W W' G h hm hG => h.kept hm hG
  lt := fun W h k hk => h.lt k hk
def IsRef (b : Nat) (R : RS) (t : Thing) : Prop := ∃ sv wv, t = refT b sv wv R
def RTurned (B : Nat) (w : World) (l : List Thing) (b : Nat) (R : RS) (W' : World) : Prop := ∃ t, IsRef b R t ∧ Sep B w W' (t :: l)
theorem RTurned.of_did {B : Nat} {w W W' : World} {l : List Thing} {b : Nat} {sv wv : Value} {R R' : RS} (h : Sep B w W (refT b sv wv R :: l)) (hd : RDid W b sv wv R' W') : RTurned B w l b R' W' := by
  obtain ⟨sv', wv', hat, hk, hm⟩ := hd
  exact ⟨refT b sv' wv' R', ⟨_, _, rfl⟩, h.turn hm hat hk⟩
section
variable {B : Nat} {w W : World} {l : List Thing} {b : Nat} {R : RS} {t : Thing}
theorem rwrite_sep (h : Sep B w W (t :: l)) (ht : IsRef b R t) (i : Int) (s : ByteArray) (hf : R.fuse ≤ 9223372036854775807) (hW : R.W.length < 1000000) (hs : s.size ≤ maxLen) :
    Calls Try.prog 66 #[.pointer (some ⟨b, 0, none⟩), .int .i64 i, .string s] W fun e W' => e = .returned (.int .i64 (R.write i s).1) ∧ RTurned B w l b (R.write i s).2 W' := by
  obtain ⟨sv, wv, rfl⟩ := ht
  exact (rwrite_at b sv wv R i s W (h.all _ List.mem_cons_self).1 hf hW hs).mono fun e W' ⟨he, hd⟩ => ⟨he, RTurned.of_did h hd⟩
theorem rsettle_sep (h : Sep B w W (t :: l)) (ht : IsRef b R t) (hf : R.fuse ≤ 9223372036854775807) :
    Calls Try.prog 63 #[.pointer (some ⟨b, 0, none⟩)] W fun e W' => e = .returned (.int .i64 R.settle.1) ∧ RTurned B w l b R.settle.2 W' := by
  obtain ⟨sv, wv, rfl⟩ := ht
  exact (rsettle_at b sv wv R W (h.all _ List.mem_cons_self).1 hf).mono fun e W' ⟨he, hd⟩ => ⟨he, RTurned.of_did h hd⟩
theorem rarm_sep (h : Sep B w W (t :: l)) (ht : IsRef b R t) (i : Int) :
    Calls Try.prog 65 #[.pointer (some ⟨b, 0, none⟩), .int .i64 i] W fun e W' => e = .returned (.int .i64 (R.arm i).1) ∧ RTurned B w l b (R.arm i).2 W' := by
  obtain ⟨sv, wv, rfl⟩ := ht
  exact (rarm_at b sv wv R i W (h.all _ List.mem_cons_self).1).mono fun e W' ⟨he, hd⟩ => ⟨he, RTurned.of_did h hd⟩
theorem rcrash_sep (h : Sep B w W (t :: l)) (ht : IsRef b R t) (a : Option Addr) (n kc : Nat) (zs : List Int) (hz : IntsAt W a n zs) (ha : 0 < n → ∀ ad, a = some ad → ¬ t.F ad.block) :
    Calls Try.prog 64 #[.pointer (some ⟨b, 0, none⟩), .slice a n kc] W fun e W' => e = .returned (.tuple #[]) ∧ RTurned B w l b (R.crash zs) W' := by
  obtain ⟨sv, wv, rfl⟩ := ht
  exact (rcrash_at b sv wv R a n kc zs W (h.all _ List.mem_cons_self).1 hz (fun h0 ad e x => ha h0 ad e (.inr (.inl x)))).mono fun e W' ⟨he, hd⟩ => ⟨he, RTurned.of_did h hd⟩
theorem rread_sep (h : Sep B w W (t :: l)) (ht : IsRef b R t) (i : Int) :
    Calls Try.prog 67 #[.pointer (some ⟨b, 0, none⟩), .int .i64 i] W fun e W' => e = .returned (.tuple #[.string (R.read i).1, .int .i64 (R.read i).2]) ∧ W = W' := by
  obtain ⟨sv, wv, rfl⟩ := ht
  exact rread_at b sv wv R i W (h.all _ List.mem_cons_self).1
theorem rsure_sep (h : Sep B w W (t :: l)) (ht : IsRef b R t) (i : Int) :
    Calls Try.prog 68 #[.pointer (some ⟨b, 0, none⟩), .int .i64 i] W fun e W' => e = .returned (.string (R.sureText i)) ∧ W = W' := by
  obtain ⟨sv, wv, rfl⟩ := ht
  exact rsure_at b sv wv R i W (h.all _ List.mem_cons_self).1
def RMade (B : Nat) (w : World) (l : List Thing) (R : RS) (v : Value) (W' : World) : Prop := ∃ b t, v = .pointer (some ⟨b, 0, none⟩) ∧ IsRef b R t ∧ Sep B w W' (t :: l)
theorem rcopy_sep (h : Sep B w W (t :: l)) (ht : IsRef b R t) :
    Calls Try.prog 38 #[.pointer (some ⟨b, 0, none⟩)] W fun e W' => ∃ v, e = .returned v ∧ RMade B w (t :: l) R v W' := by
  obtain ⟨sv, wv, rfl⟩ := ht
  refine (rcopy_at b sv wv R W (h.all _ List.mem_cons_self).1).mono fun e W' ⟨b', sv', wv', he, hk, hr, hm⟩ => ?_
  exact ⟨_, he, b', refT b' sv' wv' R, rfl, ⟨_, _, rfl⟩, h.new hm hr hk⟩
theorem rnew_sep (h : Sep B w W l) (n : Nat) (h0 : 0 < n) (hn : n ≤ 4096) :
    Calls Try.prog 37 #[.int .i64 (n : Int)] W fun e W' => ∃ v, e = .returned (.tuple #[v, .int .i64 0]) ∧ RMade B w l (RS.zero n) v W' := by
  refine (rnew_ok n h0 hn W).mono fun e W' ⟨b', he, hb, sv', hr, hsv, hm⟩ => ?_
  refine ⟨_, he, b', refT b' sv' (.slice none 0 0) (RS.zero n), rfl, ⟨_, _, rfl⟩, h.new hm hr (fun k hk => ?_)⟩
  rcases hk with e | e | e
  · rw [e]; exact hb
  · exact hsv k e
  · simp [Value.ownBlock] at e
theorem IsRef.cells (h : Sep B w W (t :: l)) (ht : IsRef b R t) : ∃ a cap a' cap', W.cell? ⟨b, 0, none⟩ = some (.slice a R.S.length cap) ∧ W.cell? ⟨b, 1, none⟩ = some (.slice a' R.W.length cap') ∧ W.cell? ⟨b, 3, none⟩ = some (.bool R.gone) := by
  obtain ⟨sv, wv, rfl⟩ := ht
  have hr : RefAt W b sv wv R := (h.all _ List.mem_cons_self).1
  obtain ⟨a, cap, hsv, _⟩ := ownsRow_slice hr.s
  obtain ⟨a', cap', hwv, _⟩ := ownsRow_slice hr.w
  exact ⟨a, cap, a', cap', hsv ▸ hr.cell.cells.1, hwv ▸ hr.cell.cells.2.1, hr.cell.cells.2.2.2⟩
theorem IsRef.bounds (h : Sep B w W (t :: l)) (ht : IsRef b R t) : R.S.length ≤ 4096 ∧ R.W.length ≤ 1000000 ∧ ∀ q ∈ R.W, 0 ≤ q.1 ∧ q.1 < (R.S.length : Int) := by
  obtain ⟨sv, wv, rfl⟩ := ht
  have hr : RefAt W b sv wv R := (h.all _ List.mem_cons_self).1
  exact ⟨hr.few, hr.fewW, hr.at'⟩
theorem IsDrum.bounds {D : DS} (h : Sep B w W (t :: l)) (ht : IsDrum b D t) : 0 < D.sure.length ∧ D.sure.length ≤ 4096 ∧ (∀ s ∈ D.sure, s.length = 64) ∧ ∀ q ∈ D.loose, q.2.length = 64 ∧ q.1 < D.sure.length := by
  obtain ⟨sb, cap, lv, rfl⟩ := ht
  have hd : DrumAt W b sb cap lv D := (h.all _ List.mem_cons_self).1
  exact ⟨hd.pos, hd.few, hd.wsure, hd.wloose⟩
end

/-! The plain laws. -/
def str (l : List UInt8) : ByteArray := ⟨l.toArray⟩
theorem str_toList (s : ByteArray) : str s.data.toList = s := by cases s; simp [str]
/-- Both drums say the same. -/
structure Sim (D : DS) (R : RS) : Prop where
  s : R.S = D.sure.map str
  w : R.W = D.loose.map fun q => ((q.1 : Int), str q.2)
  fuse : R.fuse = if D.armed then D.left else -1
  left : D.armed = true → 0 ≤ D.left ∧ D.left ≤ 9223372036854775807
  gone : R.gone = D.down
  spent : D.down = true → D.armed = true ∧ D.left = 0
theorem Sim.fuse_le {D : DS} {R : RS} (h : Sim D R) : R.fuse ≤ 9223372036854775807 := by
  rw [h.fuse]; split
  · exact (h.left (by assumption)).2
  · omega
theorem sim_zero (n : Nat) : Sim (DS.zero n) (RS.zero n) := ⟨by simp [DS.zero, RS.zero, zsec, str], by simp [DS.zero, RS.zero], by simp [DS.zero, RS.zero], by simp [DS.zero], rfl, by simp [DS.zero]⟩
theorem sim_burn {D : DS} {R : RS} (h : Sim D R) : (D.burn.1 = 0 ∧ R.burnt.1 = false ∨ D.burn.1 = 9 ∧ R.burnt.1 = true) ∧ Sim D.burn.2 R.burnt.2 := by
  obtain ⟨h1, h2, h3, h4, h5, h6⟩ := h
  obtain ⟨sure, loose, armed, left, down⟩ := D
  obtain ⟨S, Wl, fuse, gone⟩ := R
  simp only at h1 h2 h3 h4 h5 h6
  subst h5
  cases armed with
  | false =>
    simp only [Bool.false_eq_true, if_false] at h3
    subst h3
    cases gone with
    | false => exact ⟨by simp [RS.burnt, DS.burn, burns], ⟨h1, h2, by simp [RS.burnt, DS.burn, burns], by simp [DS.burn, burns], by simp [RS.burnt, DS.burn, burns], by simp [DS.burn, burns]⟩⟩
    | true => exact absurd (h6 rfl).1 (by simp)
  | true =>
    simp only [if_true] at h3
    subst h3
    obtain ⟨hl0, hl1⟩ := h4 rfl
    by_cases h0 : fuse = 0
    · subst h0
      exact ⟨by simp [RS.burnt, DS.burn, burns], ⟨h1, h2, by simp [RS.burnt, DS.burn, burns], by simp [DS.burn, burns], by simp [RS.burnt, DS.burn, burns], by simp [DS.burn, burns]⟩⟩
    · have hp : 0 < fuse := by omega
      have hw : IntKind.i64.wrap (fuse - 1) = fuse - 1 := IntWalk.i64_in _ (by omega)
      cases gone with
      | false => exact ⟨by simp [RS.burnt, DS.burn, burns, h0], ⟨h1, h2, by simp [RS.burnt, DS.burn, burns, h0, hp, hw], by simp [DS.burn, burns, h0, hw]; omega, by simp [RS.burnt, DS.burn, burns, h0], by simp [DS.burn, burns, h0]⟩⟩
      | true => exact absurd (h6 rfl).2 h0
theorem sim_write {D : DS} {R : RS} (h : Sim D R) (i : Int) (s : ByteArray) : (D.write i s.data.toList).1 = (R.write i s).1 ∧ Sim (D.write i s.data.toList).2 (R.write i s).2 := by
  have hl : R.S.length = D.sure.length := by rw [h.s, List.length_map]
  have hsz : s.data.toList.length = s.size := by simp
  unfold DS.write RS.write
  rw [hl, hsz]
  by_cases hc : i < 0 ∨ (D.sure.length : Int) ≤ i ∨ s.size ≠ 64
  · rw [if_pos hc, if_pos hc]; exact ⟨rfl, h⟩
  · rw [if_neg hc, if_neg hc]
    obtain ⟨hb, hs⟩ := sim_burn h
    rcases hb with ⟨h0, hf⟩ | ⟨h9, ht⟩
    · rw [if_pos h0, if_neg (by rw [hf]; simp)]
      refine ⟨rfl, hs.s, ?_, hs.fuse, hs.left, hs.gone, hs.spent⟩
      have : ((i.toNat : Nat) : Int) = i := by omega
      simp [h.w, str_toList, this]
    · rw [if_neg (by rw [h9]; decide), if_pos ht]; exact ⟨h9, hs⟩
theorem sim_keep (p : Nat → Bool) (l : List (Nat × List UInt8)) (s : List (List UInt8)) : ∀ k, rkeepN p (l.map fun q => ((q.1 : Int), str q.2)) (s.map str) k = (keepN p l s k).map str
  | 0 => rfl
  | k + 1 => by
    unfold rkeepN keepN
    rw [List.getElem?_map, sim_keep p l s k]
    cases l[k]? with
    | none => rfl
    | some q =>
      simp only [Option.map_some]
      split
      · simp
      · rfl
theorem sim_settle {D : DS} {R : RS} (h : Sim D R) : D.settle.1 = R.settle.1 ∧ Sim D.settle.2 R.settle.2 := by
  unfold DS.settle RS.settle
  obtain ⟨hb, hs⟩ := sim_burn h
  rcases hb with ⟨h0, hf⟩ | ⟨h9, ht⟩
  · rw [if_pos h0, if_neg (by rw [hf]; simp)]
    refine ⟨rfl, ?_, rfl, hs.fuse, hs.left, hs.gone, hs.spent⟩
    have e1 : R.burnt.2.S = R.S := rfl
    have e2 : R.burnt.2.W = R.W := rfl
    show rkeepN _ R.burnt.2.W R.burnt.2.S R.W.length = _
    rw [e1, e2, h.w, h.s, List.length_map]
    exact sim_keep _ _ _ _
  · rw [if_neg (by rw [h9]; decide), if_pos ht]; exact ⟨h9, hs⟩
theorem sim_crash {D : DS} {R : RS} (h : Sim D R) (zs : List Int) : Sim (D.crash zs) (R.crash zs) := by
  refine ⟨?_, rfl, rfl, (fun e => by cases e), rfl, (fun e => by cases e)⟩
  show rkeepN _ R.W R.S R.W.length = _
  rw [h.w, h.s, List.length_map]
  exact sim_keep _ _ _ _
theorem sim_arm {D : DS} {R : RS} (h : Sim D R) (n : Int) (hn : n ≤ 9223372036854775807) : (D.arm n).1 = (R.arm n).1 ∧ Sim (D.arm n).2 (R.arm n).2 := by
  unfold DS.arm RS.arm
  by_cases h0 : n < 0
  · rw [if_pos h0, if_pos h0]; exact ⟨rfl, h⟩
  · rw [if_neg h0, if_neg h0, h.gone]
    by_cases hd : D.down = true
    · rw [if_pos hd, if_pos hd]; exact ⟨rfl, h⟩
    · rw [if_neg hd, if_neg hd]
      exact ⟨rfl, h.s, h.w, by simp, fun _ => ⟨by simp only; omega, hn⟩, rfl, fun e => absurd e hd⟩
theorem shows_fold (l : List (Nat × List UInt8)) (i : Nat) (s : List UInt8) : showsN (l.map fun q => ((q.1 : Int), str q.2)) (i : Int) (str s) = str (match l.reverse.find? (fun q => q.1 == i) with | some q => q.2 | none => s) := by
  unfold showsN
  rw [← List.foldr_reverse, ← List.map_reverse]
  induction l.reverse with
  | nil => rfl
  | cons q t ih =>
    simp only [List.map_cons, List.foldr_cons, List.find?_cons]
    by_cases he : q.1 = i
    · subst he; simp
    · have h1 : ¬ ((q.1 : Int) = (i : Int)) := by omega
      have h2 : (q.1 == i) = false := by simpa using he
      rw [if_neg h1, ih, h2]
theorem sim_read {D : DS} {R : RS} (h : Sim D R) (i : Int) : str (D.read i).1 = (R.read i).1 ∧ (D.read i).2 = (R.read i).2 := by
  have hl : R.S.length = D.sure.length := by rw [h.s, List.length_map]
  unfold DS.read RS.read
  rw [hl, h.gone]
  by_cases hd : D.down = true
  · rw [if_pos hd, if_pos hd]; exact ⟨rfl, rfl⟩
  · rw [if_neg hd, if_neg hd]
    by_cases hc : 0 ≤ i ∧ i < (D.sure.length : Int)
    · rw [if_pos hc, if_pos hc]
      refine ⟨?_, rfl⟩
      unfold DS.shows RS.shows
      have e : R.S.getD i.toNat ByteArray.empty = str (D.sure.getD i.toNat []) := by
        rw [h.s, List.getD_eq_getElem?_getD, List.getD_eq_getElem?_getD, List.getElem?_map]
        cases D.sure[i.toNat]? <;> rfl
      rw [e, h.w, shows_fold]; rfl
    · rw [if_neg hc, if_neg hc]; exact ⟨rfl, rfl⟩
theorem sim_sure {D : DS} {R : RS} (h : Sim D R) (i : Int) : str (D.sureText i) = R.sureText i := by
  have hl : R.S.length = D.sure.length := by rw [h.s, List.length_map]
  unfold DS.sureText RS.sureText
  rw [hl]
  by_cases hc : 0 ≤ i ∧ i < (D.sure.length : Int)
  · rw [if_pos hc, if_pos hc, h.s, List.getD_eq_getElem?_getD, List.getD_eq_getElem?_getD, List.getElem?_map]
    cases D.sure[i.toNat]? <;> rfl
  · rw [if_neg hc, if_neg hc]; rfl
end Go.Proofs.Ytjnbdikhajnciaa.Drum
