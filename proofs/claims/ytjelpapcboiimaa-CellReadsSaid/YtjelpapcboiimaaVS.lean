/- The document's next reads what the program reads. -/
import Derived.Test.YtjelpapcboiimaaVY
import Derived.Test.YtjelpapcboiimaaPCellReadsx4
import Derived.Test.YtjelpapcboiimaaVL
namespace Go.Proofs.Ytjelpapcboiimaa.PCellReads
open Go.RowKit Go.Proofs.YtjelpapcboiimaaW.PrintWords Go.Proofs.YtjelpapcboiimaaW.PrintLast Go.Proofs.YtjelpapcboiimaaW.PrintMore
set_option linter.unusedVariables false
set_option linter.unusedSimpArgs false

theorem numAt_succ (s : ByteArray) (p n : Nat) : numAt s p (n + 1) = numAt s p n * 256 + byteAt s (p + n) := rfl
attribute [local irreducible] numAt byteAt
def resT : DR S25 → Int × Int × ByteArray × (List S25) × Int × Int
  | .ok x q => (x.f0, x.f1, x.f2, x.f3, (q : Int), 0)
  | .bad p e => (0, 0, (⟨#[]⟩ : ByteArray), [], (p : Int), (e : Int))
theorem bt_eq {s : ByteArray} {p : Nat} (h : p < s.size) : bt s (p : Int) = (byteAt s p : Int) := by
  unfold bt
  rw [dif_pos (by rw [Int.toNat_natCast]; exact h), byteAt_eq (by rw [← Lib.size_eq]; exact h)]
  simp [ByteArray.getElem_eq_getElem_data]
def baseR (s : ByteArray) (p n most : Nat) : Int × Bool := if (0 < n ∧ byteAt s p = 0) ∨ most < numAt s p n then (0, false) else ((numAt s p n : Int), true)
theorem w_one {a : Nat} (h : a ≤ 140737488355328) : wrap64 ((a : Int) + 1) = ((a + 1 : Nat) : Int) := by unfold wrap64; omega
theorem w_add {a b : Nat} (h : a + b ≤ 9223372036854775807) : wrap64 ((a : Int) + (b : Int)) = ((a + b : Nat) : Int) := by unfold wrap64; omega
theorem w_sub {a b : Nat} (h : b ≤ a) (ha : a ≤ 9223372036854775807) : wrap64 ((a : Int) - (b : Int)) = ((a - b : Nat) : Int) := by unfold wrap64; omega
theorem w_sub1 {a b : Nat} (h : b + 1 ≤ a) (ha : a ≤ 9223372036854775807) : wrap64 (wrap64 ((a : Int) - (b : Int)) - 1) = ((a - b - 1 : Nat) : Int) := by rw [w_sub (by omega) ha]; unfold wrap64; omega
theorem w_neg {k : Nat} (h : k ≤ 9223372036854775807) : wrap64 (wrap64 (-(k : Int)) - 1) = -1 - (k : Int) := by
  have : wrap64 (-(k : Int)) = -(k : Int) := by unfold wrap64; omega
  rw [this]; unfold wrap64; omega
theorem w_byte {s : ByteArray} {p : Nat} (h : p < s.size) : wrap64 (bt s (p : Int)) = (byteAt s p : Int) := by
  rw [bt_eq h]; have := byteAt_lt s p; unfold wrap64; omega
theorem w_div {m b : Nat} (h : b ≤ m) (hm : m ≤ 9223372036854775807) : wrap64 (Int.tdiv (wrap64 ((m : Int) - (b : Int))) 256) = (((m - b) / 256 : Nat) : Int) := by
  rw [w_sub h hm, Int.tdiv_eq_ediv_of_nonneg (by omega)]; unfold wrap64; omega
theorem w_acc {x b : Nat} (h : x * 256 + b ≤ 9223372036854775807) : wrap64 (wrap64 (256 * (x : Int)) + (b : Int)) = ((x * 256 + b : Nat) : Int) := by
  have : wrap64 (256 * (x : Int)) = 256 * (x : Int) := by unfold wrap64; omega
  rw [this]; unfold wrap64; omega
theorem base_loop (s : ByteArray) (p n most : Nat) (hs : s.size ≤ 140737488355328) (hp : p + n ≤ s.size) (h1 : 255 ≤ most) (h2 : most ≤ 9223372036854775807) :
    ∀ (d i : Nat), i + d = n → numAt s p i ≤ most → (0 < i → byteAt s p ≠ 0) → Ev (fun k => fastiref04_base.l0 k s (p : Int) (n : Int) (most : Int) (numAt s p i : Int) (i : Int)) (baseR s p n most) := by
  intro d
  induction d with
  | zero =>
    intro i hi hm h0
    refine Ev.step (f := fun _ => some _) (fun k => ?_) (Ev.now _)
    obtain rfl : i = n := by omega
    unfold baseR
    rw [fastiref04_base.l0, if_neg (by omega), if_neg (by rintro (⟨a, b⟩ | b); exact h0 a b; omega)]
  | succ d ih =>
    intro i hi hm h0
    have hin : (i : Int) < (n : Int) := by omega
    have hp0 : (0 : Int) ≤ ((p + i : Nat) : Int) := by omega
    have hps : ((p + i : Nat) : Int) < (s.size : Int) := by omega
    have hpi : p + i < s.size := by omega
    have hpb : p + i ≤ 9223372036854775807 := by omega
    have hi1 : i ≤ 140737488355328 := by omega
    have hid : i + 1 + d = n := by omega
    have hb := byteAt_lt s (p + i)
    have hmono := numAt_mono s p (m := i + 1) (n := n) (by omega)
    rw [numAt_succ] at hmono
    have ih' := ih (i + 1) hid
    rw [numAt_succ] at ih'
    generalize numAt s p i = X at *
    have hbm : byteAt s (p + i) ≤ most := by omega
    have big : (X : Int) > (((most - byteAt s (p + i)) / 256 : Nat) : Int) → baseR s p n most = (0, false) := fun h => by
      unfold baseR; rw [if_pos (.inr (by omega))]
    have small : ¬ (X : Int) > (((most - byteAt s (p + i)) / 256 : Nat) : Int) → X * 256 + byteAt s (p + i) ≤ most := fun h => by omega
    by_cases hz : i = 0
    · have hzi : (i : Int) = 0 := by omega
      by_cases hb0 : byteAt s (p + i) = 0
      · have hbi : (byteAt s (p + i) : Int) = 0 := by omega
        have hr : baseR s p n most = (0, false) := by unfold baseR; rw [if_pos (.inl ⟨by omega, by rw [hz] at hb0; exact hb0⟩)]
        refine Ev.step (f := fun _ => some (0, false)) (fun k => ?_) (by rw [hr]; exact Ev.now _)
        rw [fastiref04_base.l0, if_pos hin, w_add hpb, if_pos hp0, if_pos hps, if_pos hzi, w_byte hpi, if_pos hbi]
      · have hbi : ¬ (byteAt s (p + i) : Int) = 0 := by omega
        by_cases hbig : (X : Int) > (((most - byteAt s (p + i)) / 256 : Nat) : Int)
        · refine Ev.step (f := fun _ => some (0, false)) (fun k => ?_) (by rw [big hbig]; exact Ev.now _)
          rw [fastiref04_base.l0, if_pos hin, w_add hpb, if_pos hp0, if_pos hps, if_pos hzi, w_byte hpi, if_neg hbi, w_div hbm h2, if_pos hbig]
        · have hsm := small hbig
          refine Ev.step (fun k => ?_) (ih' hsm (fun _ => by rw [hz] at hb0; exact hb0))
          rw [fastiref04_base.l0, if_pos hin, w_add hpb, if_pos hp0, if_pos hps, if_pos hzi, w_byte hpi, if_neg hbi, w_div hbm h2, if_neg hbig, w_one hi1, w_acc (Nat.le_trans hsm h2)]
    · have hzi : ¬ (i : Int) = 0 := by omega
      by_cases hbig : (X : Int) > (((most - byteAt s (p + i)) / 256 : Nat) : Int)
      · refine Ev.step (f := fun _ => some (0, false)) (fun k => ?_) (by rw [big hbig]; exact Ev.now _)
        rw [fastiref04_base.l0, if_pos hin, w_add hpb, if_pos hp0, if_pos hps, if_neg hzi, w_byte hpi, w_div hbm h2, if_pos hbig]
      · have hsm := small hbig
        refine Ev.step (fun k => ?_) (ih' hsm (fun _ => h0 (by omega)))
        rw [fastiref04_base.l0, if_pos hin, w_add hpb, if_pos hp0, if_pos hps, if_neg hzi, w_byte hpi, w_div hbm h2, if_neg hbig, w_one hi1, w_acc (Nat.le_trans hsm h2)]
theorem base_any (s : ByteArray) (p n most : Nat) (hs : s.size ≤ 140737488355328) (hp : p + n ≤ s.size) (h1 : 255 ≤ most) (h2 : most ≤ 9223372036854775807) :
    Ev (fun k => fastiref04_base.f k s (p : Int) (n : Int) (most : Int)) (baseR s p n most) := by
  have h := base_loop s p n most hs hp h1 h2 n 0 (by omega) (by rw [show numAt s p 0 = 0 by unfold numAt; rfl]; omega) (by omega)
  rw [show numAt s p 0 = 0 by unfold numAt; rfl] at h
  exact Ev.congr (fun k => by unfold fastiref04_base.f; rfl) h
/-- What is asked of the inner reading. -/
def Inner (s : ByteArray) (D : Int) (g : Nat → DR S25) : Prop := ∀ q, q ≤ s.size → Ev (fun k => fastiref04_next.f k s (q : Int) (D - 1)) (resT (g q)) ∧ (∀ x q', g q = .ok x q' → q' ≤ s.size) ∧ ∀ p e, g q = .bad p e → e ≠ 0
theorem next_loop {s : ByteArray} {D : Int} {g : Nat → DR S25} (hD : 1 ≤ D) (hD2 : D ≤ 100) (hg : Inner s D g) (x : Nat) (hx : x ≤ 4095) :
    ∀ (m i q : Nat) (acc : List S25), i + m = x → acc.length = i → q ≤ s.size → Ev (fun k => fastiref04_next.l0 k s D (x : Int) (q : Int) (i : Int) 3 0 (⟨#[]⟩ : ByteArray) acc) (resT (rowR (manyW g m q acc))) := by
  intro m
  induction m with
  | zero =>
    intro i q acc hi hl hq
    refine Ev.step (f := fun _ => some _) (fun k => ?_) (Ev.now _)
    rw [fastiref04_next.l0, if_neg (by omega)]; rfl
  | succ m ih =>
    intro i q acc hi hl hq
    obtain ⟨h1, h2, h3⟩ := hg q hq
    have e1 : wrap64 (D - 1) = D - 1 := by unfold wrap64; omega
    have e2 : wrap64 ((i : Int) + 1) = ((i + 1 : Nat) : Int) := by unfold wrap64; omega
    refine Ev.step (fun k => by rw [fastiref04_next.l0, if_pos (by omega), e1, e2]) (Ev.bind h1 ?_)
    rw [manyW]
    cases hgq : g q with
    | bad p e =>
      have he := h3 p e hgq
      refine Ev.congr (f := fun _ => some _) (fun k => ?_) (Ev.now _)
      rw [if_neg (by simp only [resT]; omega)]; rfl
    | ok y q' =>
      refine Ev.congr (fun k => ?_) (ih (i + 1) q' (acc ++ [y]) (by omega) (by simp [hl]) (h2 y q' hgq))
      have e3 : (resT (DR.ok y q')).2.2.2.2.1 = (q' : Int) := rfl
      have e4 : (⟨(resT (DR.ok y q')).1, (resT (DR.ok y q')).2.1, (resT (DR.ok y q')).2.2.1, (resT (DR.ok y q')).2.2.2.1⟩ : S25) = y := by cases y; rfl
      rw [if_pos (by rfl), if_pos (by omega), e3, e4]
theorem j1_no (s : ByteArray) (p : Nat) (D a b c : Int) : Ev (fun k => fastiref04_next.j1 k s (p : Int) D a b c true) (resT (.bad p 4)) :=
  Ev.step (f := fun _ => some _) (fun k => by rw [fastiref04_next.j1, if_pos rfl]; rfl) (Ev.now _)
theorem next_j1 {s : ByteArray} {D : Int} {g : Nat → DR S25} (hs : s.size ≤ 140737488355328) (p n most kd : Nat) (hp : p < s.size) (hn : n ≤ 8) (h1 : 255 ≤ most) (h2 : most ≤ 9223372036854775807) (hk : 1 ≤ kd) (hk4 : kd ≤ 4) (hD0 : 0 ≤ D) (hD2 : D ≤ 100) (hg : 1 ≤ D → Inner s D g) (h4 : kd = 4 → most = 4095) (h3 : kd = 3 → most = 65535) (r : DR S25)
    (hr : r = if D < 1 then .bad p 5 else if s.size < p + 1 + n then .bad s.size 3 else if 0 < n ∧ byteAt s (p + 1) = 0 then .bad p 4 else if most < numAt s (p + 1) n then .bad p 4 else if kd = 1 then .ok ⟨1, (numAt s (p + 1) n : Int), ⟨#[]⟩, []⟩ (p + 1 + n)
      else if kd = 2 then .ok ⟨1, -1 - (numAt s (p + 1) n : Int), ⟨#[]⟩, []⟩ (p + 1 + n) else if kd = 3 then (if s.size < p + 1 + n + numAt s (p + 1) n then .bad s.size 3 else .ok ⟨2, 0, s.extract (p + 1 + n) (p + 1 + n + numAt s (p + 1) n), []⟩ (p + 1 + n + numAt s (p + 1) n)) else rowR (manyW g (numAt s (p + 1) n) (p + 1 + n) [])) :
    Ev (fun k => fastiref04_next.j1 k s (p : Int) D (kd : Int) (n : Int) (most : Int) false) (resT r) := by
  by_cases hD : D < 1
  · rw [if_pos hD] at hr
    rw [hr]
    exact Ev.step (f := fun _ => some _) (fun k => by rw [fastiref04_next.j1, if_neg (by decide), if_pos hD]; rfl) (Ev.now _)
  rw [if_neg hD] at hr
  have hD1 : 1 ≤ D := by omega
  have a1 : p + 1 ≤ s.size := by omega
  have a2 : s.size ≤ 9223372036854775807 := by omega
  have a3 : p ≤ 140737488355328 := by omega
  by_cases hsz : s.size < p + 1 + n
  · have c1 : ((s.size - p - 1 : Nat) : Int) < (n : Int) := by omega
    rw [if_pos hsz] at hr
    rw [hr]
    exact Ev.step (f := fun _ => some _) (fun k => by rw [fastiref04_next.j1, if_neg (by decide), if_neg hD, w_sub1 a1 a2, if_pos c1]; rfl) (Ev.now _)
  have c1 : ¬ ((s.size - p - 1 : Nat) : Int) < (n : Int) := by omega
  have a4 : p + 1 + n ≤ 9223372036854775807 := by omega
  have a5 : p + 1 + n ≤ s.size := by omega
  rw [if_neg hsz] at hr
  have hb := base_any s (p + 1) n most hs a5 h1 h2
  refine Ev.step (fun k => by rw [fastiref04_next.j1, if_neg (by decide), if_neg hD, w_sub1 a1 a2, if_neg c1, w_one a3, w_add a4]) (Ev.bind hb ?_)
  by_cases hz : 0 < n ∧ byteAt s (p + 1) = 0
  · rw [if_pos hz] at hr
    rw [hr, show baseR s (p + 1) n most = (0, false) by unfold baseR; rw [if_pos (.inl hz)]]
    exact Ev.now _
  rw [if_neg hz] at hr
  by_cases hm : most < numAt s (p + 1) n
  · rw [if_pos hm] at hr
    rw [hr, show baseR s (p + 1) n most = (0, false) by unfold baseR; rw [if_pos (.inr hm)]]
    exact Ev.now _
  rw [if_neg hm] at hr
  rw [show baseR s (p + 1) n most = ((numAt s (p + 1) n : Int), true) by unfold baseR; rw [if_neg (by rintro (a | a); exact hz a; exact hm a)]]
  generalize numAt s (p + 1) n = k at *
  have hkm : k ≤ 9223372036854775807 := by omega
  by_cases k1 : kd = 1
  · have q1 : (kd : Int) = 1 := by omega
    rw [if_pos k1] at hr
    rw [hr]
    refine Ev.congr (f := fun _ => some _) (fun j => ?_) (Ev.now _)
    rw [if_pos rfl, if_pos q1]; rfl
  have q1 : ¬ (kd : Int) = 1 := by omega
  rw [if_neg k1] at hr
  by_cases k2 : kd = 2
  · have q2 : (kd : Int) = 2 := by omega
    rw [if_pos k2] at hr
    rw [hr]
    refine Ev.congr (f := fun _ => some _) (fun j => ?_) (Ev.now _)
    rw [if_pos rfl, if_neg q1, if_pos q2, w_neg hkm]; rfl
  have q2 : ¬ (kd : Int) = 2 := by omega
  rw [if_neg k2] at hr
  by_cases k3 : kd = 3
  · have q3 : (kd : Int) = 3 := by omega
    rw [if_pos k3] at hr
    have hm3 := h3 k3
    by_cases hsh : s.size < p + 1 + n + k
    · have c2 : ((s.size - (p + 1 + n) : Nat) : Int) < (k : Int) := by omega
      rw [if_pos hsh] at hr
      rw [hr]
      refine Ev.congr (f := fun _ => some _) (fun j => ?_) (Ev.now _)
      rw [if_pos rfl, if_neg q1, if_neg q2, if_pos q3, w_sub a5 a2, if_pos c2]; rfl
    · have c2 : ¬ ((s.size - (p + 1 + n) : Nat) : Int) < (k : Int) := by omega
      have c3 : (0 : Int) ≤ ((p + 1 + n : Nat) : Int) := by omega
      have c4 : ((p + 1 + n : Nat) : Int) ≤ ((p + 1 + n + k : Nat) : Int) := by omega
      have c5 : ((p + 1 + n + k : Nat) : Int) ≤ (s.size : Int) := by omega
      have c6 : p + 1 + n + k ≤ 9223372036854775807 := by omega
      rw [if_neg hsh] at hr
      rw [hr]
      refine Ev.congr (f := fun _ => some _) (fun j => ?_) (Ev.now _)
      rw [if_pos rfl, if_neg q1, if_neg q2, if_pos q3, w_sub a5 a2, if_neg c2, if_pos c3, w_add c6, if_pos c4, if_pos c5, Int.toNat_natCast, Int.toNat_natCast]; rfl
  · have q3 : ¬ (kd : Int) = 3 := by omega
    rw [if_neg k3] at hr
    have hm4 := h4 (by omega)
    have h := next_loop hD1 hD2 (hg hD1) k (by omega) k 0 (p + 1 + n) [] (by omega) rfl a5
    rw [hr]
    refine Ev.congr (fun j => ?_) h
    rw [if_pos rfl, if_neg q1, if_neg q2, if_neg q3]; rfl
theorem next_step {s : ByteArray} {D : Int} {g : Nat → DR S25} (hs : s.size ≤ 140737488355328) (hD0 : 0 ≤ D) (hD2 : D ≤ 100) (deep : Bool) (hd : deep = decide (1 ≤ D)) (hg : 1 ≤ D → Inner s D g) (p : Nat) (hp : p ≤ s.size) :
    Ev (fun k => fastiref04_next.f k s (p : Int) D) (resT (cellW s deep g p)) := by
  rw [cellW_eq]
  by_cases hsz : s.size < p + 1
  · rw [if_pos hsz]
    exact Ev.step (f := fun _ => some _) (fun k => by rw [fastiref04_next.f, if_pos (by omega)]; rfl) (Ev.now _)
  rw [if_neg hsz]
  have hb := byteAt_lt s p
  have e0 : wrap64 (bt s (p : Int)) = (byteAt s p : Int) := w_byte (by omega)
  have e1 : wrap64 (Int.tdiv (byteAt s p : Int) 16) = ((byteAt s p / 16 : Nat) : Int) := by rw [Int.tdiv_eq_ediv_of_nonneg (by omega)]; unfold wrap64; omega
  have e2 : Int.tmod (byteAt s p : Int) 16 = ((byteAt s p % 16 : Nat) : Int) := by rw [Int.tmod_eq_emod_of_nonneg (by omega)]; omega
  have hn16 : byteAt s p % 16 < 16 := Nat.mod_lt _ (by decide)
  have hk16 : byteAt s p / 16 < 16 := by omega
  generalize hkd : byteAt s p / 16 = kd at *
  generalize hnn : byteAt s p % 16 = n at *
  have go : ∀ (most wide : Nat), most = mostOf kd → (1 ≤ kd → kd ≤ 4 → wide = widthOf kd) → wide ≤ 8 → 255 ≤ most → most ≤ 9223372036854775807 → (kd = 4 → most = 4095) → (kd = 3 → most = 65535) →
      Ev (fun k => fastiref04_next.j0 k s (p : Int) D (kd : Int) (n : Int) (most : Int) (wide : Int)) (resT (if kd < 1 ∨ 4 < kd then .bad p 4 else if widthOf kd < n then .bad p 4 else if deep = false then .bad p 5 else if s.size < p + 1 + n then .bad s.size 3 else if 0 < n ∧ byteAt s (p + 1) = 0 then .bad p 4
        else if mostOf kd < numAt s (p + 1) n then .bad p 4 else if kd = 1 then .ok ⟨1, (numAt s (p + 1) n : Int), ⟨#[]⟩, []⟩ (p + 1 + n) else if kd = 2 then .ok ⟨1, -1 - (numAt s (p + 1) n : Int), ⟨#[]⟩, []⟩ (p + 1 + n)
        else if kd = 3 then (if s.size < p + 1 + n + numAt s (p + 1) n then .bad s.size 3 else .ok ⟨2, 0, s.extract (p + 1 + n) (p + 1 + n + numAt s (p + 1) n), []⟩ (p + 1 + n + numAt s (p + 1) n)) else rowR (manyW g (numAt s (p + 1) n) (p + 1 + n) []))) := by
    intro most wide hmo hwi hw8 hm1 hm2 hm4 hm3
    by_cases hk1 : kd < 1
    · rw [if_pos (.inl hk1)]
      exact Ev.step (fun k => by rw [fastiref04_next.j0, if_pos (by omega)]) (j1_no s p D _ _ _)
    by_cases hk4 : 4 < kd
    · rw [if_pos (.inr hk4)]
      exact Ev.step (fun k => by rw [fastiref04_next.j0, if_neg (by omega), if_pos (by omega)]) (j1_no s p D _ _ _)
    rw [if_neg (by omega)]
    have hwd := hwi (by omega) (by omega)
    by_cases hwn : widthOf kd < n
    · rw [if_pos hwn]
      exact Ev.step (fun k => by rw [fastiref04_next.j0, if_neg (by omega), if_neg (by omega), decide_eq_true (by omega)]) (j1_no s p D _ _ _)
    rw [if_neg hwn]
    refine Ev.step (fun k => by rw [fastiref04_next.j0, if_neg (by omega), if_neg (by omega), decide_eq_false (by omega)]) (next_j1 hs p n most kd (by omega) (by omega) hm1 hm2 (by omega) (by omega) hD0 hD2 hg hm4 hm3 _ ?_)
    rw [← hmo]
    by_cases hD : D < 1
    · rw [if_pos hD, if_pos (by rw [hd]; simp; omega)]
    · rw [if_neg hD, if_neg (by rw [hd]; simp; omega)]
  by_cases k3 : kd = 3
  · refine Ev.step (fun k => ?_) (go 65535 2 (by rw [k3]; rfl) (fun _ _ => by rw [k3]; rfl) (by decide) (by decide) (by decide) (fun h => by omega) (fun _ => rfl))
    rw [fastiref04_next.f, if_neg (by omega), if_pos (by omega), if_pos (by omega), e0, e1, e2, if_pos (by omega)]; rfl
  by_cases k4 : kd = 4
  · refine Ev.step (fun k => ?_) (go 4095 2 (by rw [k4]; rfl) (fun _ _ => by rw [k4]; rfl) (by decide) (by decide) (by decide) (fun _ => rfl) (fun h => by omega))
    rw [fastiref04_next.f, if_neg (by omega), if_pos (by omega), if_pos (by omega), e0, e1, e2, if_neg (by omega), if_pos (by omega)]; rfl
  by_cases k12 : kd = 1 ∨ kd = 2
  · refine Ev.step (fun k => ?_) (go 9223372036854775807 8 (by unfold mostOf; rw [if_pos k12]) (fun _ _ => by unfold widthOf; rw [if_pos k12]) (by decide) (by decide) (by decide) (fun h => by omega) (fun h => by omega))
    rw [fastiref04_next.f, if_neg (by omega), if_pos (by omega), if_pos (by omega), e0, e1, e2, if_neg (by omega), if_neg (by omega)]; rfl
  · rw [if_pos (by omega)]
    refine Ev.step (f := fun k => fastiref04_next.j0 k s (p : Int) D (kd : Int) (n : Int) 9223372036854775807 8) (fun k => ?_) (Ev.step (f := fun k => fastiref04_next.j1 k s (p : Int) D (kd : Int) (n : Int) 9223372036854775807 true) (fun k => ?_) (j1_no s p D _ _ _))
    · rw [fastiref04_next.f, if_neg (by omega), if_pos (by omega), if_pos (by omega), e0, e1, e2, if_neg (by omega), if_neg (by omega)]
    · rw [fastiref04_next.j0]
      by_cases h : kd < 1
      · rw [if_pos (by omega)]
      · rw [if_neg (by omega), if_pos (by omega)]
theorem next_any (s : ByteArray) (hs : s.size ≤ 140737488355328) : ∀ (d : Nat), d ≤ 100 → ∀ p, p ≤ s.size → Ev (fun k => fastiref04_next.f k s (p : Int) (d : Int)) (resT (cellD s d p))
  | 0, _, p, hp => next_step hs (by decide) (by decide) false rfl (fun h => by omega) p hp
  | d + 1, hd, p, hp => by
    refine next_step hs (by omega) (by omega) true (by rw [eq_comm]; simp; omega) (fun _ q hq => ⟨?_, fun x q' h => (cellD_got s hs d q x q' h).le, fun p e h => by have := cellD_bad s d q p e h; omega⟩) p hp
    rw [show (((d + 1 : Nat) : Int) - 1) = (d : Int) by omega]
    exact next_any s hs d (by omega) q hq
/-- The document's Next and Take answer what the program's do. -/
theorem Next_ref (s : ByteArray) (hs : s.size ≤ 140737488355328) (a : Int) : Ev (fun k => fastiref04_Next.f k s a) ((nextR s a).1.f0, (nextR s a).1.f1, (nextR s a).1.f2, (nextR s a).1.f3, ((nextR s a).2.1 : Int), ((nextR s a).2.2 : Int)) := by
  unfold nextR
  by_cases h0 : a < 0
  · rw [if_pos (.inl h0)]
    exact Ev.congr (f := fun _ => some _) (fun k => by unfold fastiref04_Next.f; rw [if_pos h0]; rfl) (Ev.now _)
  by_cases h1 : (s.size : Int) < a
  · rw [if_pos (.inr h1)]
    exact Ev.congr (f := fun _ => some _) (fun k => by unfold fastiref04_Next.f; rw [if_neg h0, if_pos h1]; rfl) (Ev.now _)
  rw [if_neg (by omega)]
  obtain ⟨p, rfl⟩ : ∃ p : Nat, a = (p : Int) := ⟨a.toNat, by omega⟩
  rw [Int.toNat_natCast]
  have h16 : Ev (fun k => fastiref04_next.f k s (p : Int) 16) (resT (cellD s 16 p)) := next_any s hs 16 (by decide) p (by omega)
  refine Ev.congr (fun k => by unfold fastiref04_Next.f; rw [if_neg h0, if_neg (by omega)]) (Ev.bind h16 ?_)
  cases cellD s 16 p <;> exact Ev.now _
theorem Take_ref (s : ByteArray) (hs : s.size ≤ 140737488355328) : Ev (fun k => fastiref04_Take.f k s) ((takeR s).1.f0, (takeR s).1.f1, (takeR s).1.f2, (takeR s).1.f3, ((takeR s).2 : Int)) := by
  refine Ev.congr (fun k => by unfold fastiref04_Take.f; rfl) (Ev.bind (Next_ref s hs 0) ?_)
  unfold takeR
  by_cases he : (nextR s 0).2.2 = 0
  · by_cases ht : (nextR s 0).2.1 < s.size
    · refine Ev.congr (f := fun _ => some _) (fun k => ?_) (Ev.now _)
      rw [if_pos (by simp only; omega), if_pos (by simp only; omega), if_neg (by simpa using he), if_pos ht]; rfl
    · refine Ev.congr (f := fun _ => some _) (fun k => ?_) (Ev.now _)
      rw [if_pos (by simp only; omega), if_neg (by simp only; omega), if_neg (by simpa using he), if_neg ht]; rfl
  · refine Ev.congr (f := fun _ => some _) (fun k => ?_) (Ev.now _)
    rw [if_neg (by simp only; omega), if_pos he]; rfl
theorem wfW_z : wfW z25 := by unfold z25; rw [wfW, wfWL]; exact ⟨by decide, by decide, by decide, by decide, trivial⟩
theorem next_wf (s : ByteArray) (hs : s.size ≤ 140737488355328) (a : Int) : wfW (nextR s a).1 := by
  unfold nextR
  split
  · exact wfW_z
  · cases h : cellD s 16 a.toNat with
    | ok x q => exact wfW_of x (cellD_got s hs _ _ _ _ h).wf
    | bad p e => exact wfW_z
theorem take_wf (s : ByteArray) (hs : s.size ≤ 140737488355328) : wfW (takeR s).1 := by
  unfold takeR
  split
  · exact wfW_z
  · split
    · exact wfW_z
    · exact next_wf s hs 0
end Go.Proofs.Ytjelpapcboiimaa.PCellReads
