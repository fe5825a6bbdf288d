/- Texts of one proof, joined: Kh, Ki, Kj, Kk, Kl. -/
import Derived.Test.YteljihpheffjnaaDoorZKb
import Derived.Test.YteljihpheffjnaaDoorZGc
import Derived.Test.YteljihpheffjnaaDoorZKa
import Derived.Test.YteljihpheffjnaaDoorZR
set_option linter.unusedSimpArgs false
set_option linter.unusedVariables false
/- The law's world: both drums, both tapes; spoilt; open. -/
namespace Go.Proofs.YteljihpheffjnaaDoor.Tape
open Go.RowKit Go.Proofs.YteljihpheffjnaaDoor.Ord Go.Proofs.YteljihpheffjnaaDoorW.PrintWords Go.Proofs.YteljihpheffjnaaDoor.Base Go.Proofs.YteljihpheffjnaaDoor.Drum
set_option linter.unusedVariables false
set_option linter.unusedSimpArgs false
attribute [local go_sem] rdl_const rdl_func rdl_global rdl_nil rdl_cons
attribute [local irreducible] OpGives

theorem sec_life_lt {D : DS} {j : Nat} {x : Sec} (h : DS.sec D j = some x) : x.life < 4294967296 := by
  unfold DS.sec saysN at h
  split at h
  · cases h
  · split at h
    · cases h
    · injection h with h
      subst h
      have := numL_lt ((D.shows j).take 4)
      refine Nat.lt_of_lt_of_le this ?_
      exact Nat.le_trans (Nat.pow_le_pow_right (by decide) (show ((D.shows j).take 4).length ≤ 4 by rw [List.length_take]; omega)) (by decide)
theorem great_lt (D : DS) : DS.great D < 4294967296 := Nat.lt_succ_of_le (great_le fun j x _ h => Nat.le_of_lt_succ (sec_life_lt h))
theorem sep_cut {B : Nat} {w W : World} {l r : List Thing} (h : Sep B w W (l ++ r)) : Sep B w W l :=
  ⟨h.below, h.le, fun t ht => h.all t (List.mem_append_left _ ht), (List.pairwise_append.1 h.apart).1⟩
/-- The law's world. -/
def worldT (wb b rb : Nat) (tv xv : Value) : Thing := blockT wb #[.pointer (some ⟨b, 0, none⟩), .pointer (some ⟨rb, 0, none⟩), tv, xv] 51
def WlAt (W : World) (wb b rb : Nat) (tv xv : Value) : Prop := W.heap[wb]? = some (.cells #[.pointer (some ⟨b, 0, none⟩), .pointer (some ⟨rb, 0, none⟩), tv, xv] 51 (0, 0))
theorem WlAt.cells {W : World} {wb b rb : Nat} {tv xv : Value} (h : WlAt W wb b rb tv xv) : W.cell? ⟨wb, 0, none⟩ = some (.pointer (some ⟨b, 0, none⟩)) ∧ W.cell? ⟨wb, 1, none⟩ = some (.pointer (some ⟨rb, 0, none⟩)) ∧ W.cell? ⟨wb, 2, none⟩ = some tv ∧ W.cell? ⟨wb, 3, none⟩ = some xv := by
  refine ⟨?_, ?_, ?_, ?_⟩ <;> (rw [Lib.cell_of_heap h]; rfl)
theorem WlAt.free {W : World} {wb b rb : Nat} {tv xv : Value} (h : WlAt W wb b rb tv xv) (i : Nat) : W.frozen? ⟨wb, i, none⟩ = false := frozen_of_row W wb i _ _ h
theorem WlAt.put {W : World} {wb b rb : Nat} {tv xv : Value} (h : WlAt W wb b rb tv xv) (tv' xv' : Value) : WlAt ((W.setCell ⟨wb, 2, none⟩ tv').setCell ⟨wb, 3, none⟩ xv') wb b rb tv' xv' := by
  have h1 : (W.setCell ⟨wb, 2, none⟩ tv').heap[wb]? = _ := cells_set h 2 tv'
  exact cells_set h1 3 xv'
/-- The tapes: none, or both, and alike. -/
def TapeP (b rb N k : Nat) (tv xv : Value) (tl : List Thing) : Prop :=
  (tv = .pointer none ∧ xv = .pointer none ∧ tl = []) ∨ ∃ tb xb T, tv = .pointer (some ⟨tb, 0, none⟩) ∧ xv = .pointer (some ⟨xb, 0, none⟩) ∧ tl = [tapeT tb b T, rtapeT xb rb T] ∧ T.at_ ≤ N ∧ T.life ≤ 4294967295 ∧ T.count ≤ 5000 + k
def PW (B : Nat) (w : World) (wb b rb : Nat) (D : DS) (R : RS) (k : Nat) (W : World) : Prop :=
  ∃ td tr tv xv tl, IsDrum b D td ∧ IsRef rb R tr ∧ TapeP b rb D.sure.length k tv xv tl ∧ Sep B w W (worldT wb b rb tv xv :: td :: tr :: tl)
/-- A drum that is small. -/
structure Gd (D : DS) (k : Nat) : Prop where
  few : D.sure.length ≤ 40
  loose : D.loose.length ≤ 1000 + 100 * k
  wide : DW D
theorem strs_none (W : World) : StrsAt W none 0 [] := ⟨rfl, by decide, fun h => absurd h (by decide)⟩
set_option maxRecDepth 100000 in
set_option maxHeartbeats 8000000 in
theorem wopen {B : Nat} {w W : World} {wb b rb k : Nat} {D : DS} {R : RS} (hP : PW B w wb b rb D R k W) (hs : Sim D R) (hg : Gd D k) (hk : k ≤ 100) :
    Calls Tryd.prog 22 #[.pointer (some ⟨wb, 0, none⟩)] W fun e W' => e = .returned (.bool true) ∧ PW B w wb b rb D R k W' := by
  obtain ⟨td, tr, tv, xv, tl, htd, htr, htp, hsep⟩ := hP
  have hsd : Sep B w W (td :: tr :: worldT wb b rb tv xv :: tl) := hsep.perm ((List.Perm.swap _ _ _).trans (List.Perm.cons _ (List.Perm.swap _ _ _)))
  obtain ⟨c0, c1, c2, c3⟩ := WlAt.cells (sep_head hsep)
  have hop := open_sep hsd htd (by have := hg.loose; omega) (great_lt D)
  have hd3 : (∃ c : Int, (∀ B w l b, Opened B w l b D = OpenFail B w l c) ∧ ∀ B w l b, ROpened B w l b D = OpenFail B w l c) ∨ ((∀ B w l b, Opened B w l b D = OpenOk B w l b D) ∧ ∀ B w l b, ROpened B w l b D = ROpenOk B w l b D) := by
    by_cases hdn : D.down = true
    · exact .inl ⟨9, fun B w l b => by unfold Opened; rw [if_pos hdn], fun B w l b => by unfold ROpened; rw [if_pos hdn]⟩
    · by_cases h : DS.great D = 4294967295
      · exact .inl ⟨5, fun B w l b => by unfold Opened; rw [if_neg hdn, if_pos h], fun B w l b => by unfold ROpened; rw [if_neg hdn, if_pos h]⟩
      · exact .inr ⟨fun B w l b => by unfold Opened; rw [if_neg hdn, if_neg h], fun B w l b => by unfold ROpened; rw [if_neg hdn, if_neg h]⟩
  have hbnd : (DS.tape D).at_ ≤ D.sure.length ∧ (DS.great D ≠ 4294967295 → (DS.tape D).life ≤ 4294967295) ∧ (DS.tape D).count ≤ 5000 + k := by
    obtain ⟨q, h1, _⟩ := steps_scan (D := D) D.sure.length [] 0 1 (Nat.zero_le _) (Nat.le_add_left _ _)
    have hle := h1.le (Nat.zero_le _)
    rw [List.length_nil] at hle
    have := hg.few
    have hgl := great_lt D
    refine ⟨hle.2.1, fun h => ?_, ?_⟩
    · show DS.great D + 1 ≤ _; omega
    · show (DS.scanN D D.sure.length 0 1 []).1.length ≤ _; omega
  have hbig : (∀ B w l b, Opened B w l b D = OpenOk B w l b D) → DS.great D ≠ 4294967295 := fun h e => by
    have h1 := congrFun (congrFun (h 0 w [] 0) (.returned (.tuple #[.pointer none, .slice none 0 0, .int .i64 5]))) w
    by_cases hdn : D.down = true
    · have h2 : Opened 0 w [] 0 D = OpenFail 0 w [] 9 := by unfold Opened; rw [if_pos hdn]
      have h3 := congrFun (congrFun (h 0 w [] 0) (.returned (.tuple #[.pointer none, .slice none 0 0, .int .i64 9]))) w
      rw [h2] at h3
      have h4 : OpenFail 0 w [] 9 (.returned (.tuple #[.pointer none, .slice none 0 0, .int .i64 9])) w := ⟨rfl, ⟨Below.refl _ _, Nat.zero_le _, (fun _ h => by cases h), List.Pairwise.nil⟩⟩
      rw [h3] at h4
      obtain ⟨tb, v, h5, _⟩ := h4
      simp at h5
    · have h2 : Opened 0 w [] 0 D = OpenFail 0 w [] 5 := by unfold Opened; rw [if_neg hdn, if_pos e]
      rw [h2] at h1
      have h4 : OpenFail 0 w [] 5 (.returned (.tuple #[.pointer none, .slice none 0 0, .int .i64 5])) w := ⟨rfl, ⟨Below.refl _ _, Nat.zero_le _, (fun _ h => by cases h), List.Pairwise.nil⟩⟩
      rw [h1] at h4
      obtain ⟨tb, v, h5, _⟩ := h4
      simp at h5
  have HBND := Lib.hid hbnd
  have HG := Lib.hid hg
  have HS := Lib.hid hs
  have HTD := Lib.hid htd
  have HTR := Lib.hid htr
  have hscl : (DS.scan D).1.length ≤ 1000000000 := by have : (DS.tape D).count ≤ _ := hbnd.2.2; show (DS.tape D).count ≤ _; omega
  clear hg hs htd htr hsep hbnd
  rcases hd3 with ⟨c, ho1, ho2⟩ | ⟨ho1, ho2⟩
  · rw [ho1] at hop
    have HOP := Lib.hid hop
    have HO2 := Lib.hid ho2
    clear hop ho1 ho2 hbig
    go_enter Tryd.func22, Tryd.ntmps22
    go_wp2_with fail
    refine HOP.out.mono ?_
    rintro e W1 ⟨rfl, hs1⟩
    have hs1' : Sep B w W1 (tr :: td :: worldT wb b rb tv xv :: tl) := hs1.swap
    obtain ⟨_, k1, _, _⟩ := WlAt.cells (hs1'.all (worldT wb b rb tv xv) (by simp)).1
    have hop2 := ropen_sep hs1' HTR.out HS.out HG.out.wide (great_lt D)
    rw [HO2.out] at hop2
    have HOP2 := Lib.hid hop2
    clear hs1 hs1' hop2
    go_wp2_with fail
    refine HOP2.out.mono ?_
    rintro e W2 ⟨rfl, hs2⟩
    have hs2' : Sep B w W2 (worldT wb b rb tv xv :: td :: tr :: tl) := hs2.perm ((List.Perm.cons _ (List.Perm.swap _ _ _)).trans ((List.Perm.swap _ _ _).trans (List.Perm.cons _ (List.Perm.swap _ _ _))))
    have hw2 : WlAt W2 wb b rb tv xv := sep_head hs2'
    obtain ⟨_, _, m2, m3⟩ := hw2.cells
    have f2 := hw2.free 2
    have f3 := hw2.free 3
    have hs3 := Sep.turn (t' := worldT wb b rb (.pointer none) (.pointer none)) hs2' (Mod.trans (F := fun k => k = wb) (G := fun k => k = wb) (Mod.setCell W2 ⟨wb, 2, none⟩ (.pointer none) rfl) (Mod.setCell _ ⟨wb, 3, none⟩ (.pointer none) rfl) (fun _ e => .inl e)) (hw2.put (.pointer none) (.pointer none)) (fun k hk => .inl hk)
    have HS3 := Lib.hid (sep_cut (l := [worldT wb b rb (.pointer none) (.pointer none), td, tr]) hs3)
    clear hs2 hs2' hw2 hs3
    go_wp2_with fail
    refine (same_at none none 0 0 0 0 [] [] _ (strs_none _) (strs_none _)).mono ?_
    rintro e w' ⟨rfl, m, rfl⟩
    have HS4 := Lib.hid (HS3.out.drewN m)
    go_wp2_with fail
    go_ret
    exact ⟨rfl, td, tr, _, _, [], HTD.out, HTR.out, .inl ⟨rfl, rfl, rfl⟩, HS4.out⟩
  · have hgb := hbig ho1
    rw [ho1] at hop
    have HOP := Lib.hid hop
    have HO2 := Lib.hid ho2
    have HGB := Lib.hid hgb
    clear hop ho1 ho2 hbig hgb
    go_enter Tryd.func22, Tryd.ntmps22
    go_wp2_with fail
    refine HOP.out.mono ?_
    rintro e W1 ⟨tb, v1, rfl, hs1⟩
    obtain ⟨na, nc, rfl⟩ := texts_slice (sep_head hs1.swap)
    have hs1' : Sep B w W1 (tr :: tapeT tb b (DS.tape D) :: textsT (.slice na (DS.scan D).1.length nc) (DS.scan D).1 :: td :: worldT wb b rb tv xv :: tl) := hs1.perm (List.perm_middle (l₁ := [_, _, _]))
    obtain ⟨_, k1, _, _⟩ := WlAt.cells (hs1'.all (worldT wb b rb tv xv) (by simp)).1
    have hop2 := ropen_sep hs1' HTR.out HS.out HG.out.wide (great_lt D)
    rw [HO2.out] at hop2
    have HOP2 := Lib.hid hop2
    clear hs1 hs1' hop2
    go_wp2_with fail
    refine HOP2.out.mono ?_
    rintro e W2 ⟨xb, v2, rfl, hs2⟩
    obtain ⟨ya, yc, rfl⟩ := texts_slice (sep_head hs2.swap)
    have hs2' : Sep B w W2 (worldT wb b rb tv xv :: rtapeT xb rb (DS.tape D) :: textsT (.slice ya (DS.scan D).1.length yc) (DS.scan D).1 :: tr :: tapeT tb b (DS.tape D) :: textsT (.slice na (DS.scan D).1.length nc) (DS.scan D).1 :: td :: tl) := hs2.perm (List.perm_middle (l₁ := [_, _, _, _, _, _]))
    have hw2 : WlAt W2 wb b rb tv xv := sep_head hs2'
    obtain ⟨_, _, m2, m3⟩ := hw2.cells
    have f2 := hw2.free 2
    have f3 := hw2.free 3
    have hs3 := Sep.turn (t' := worldT wb b rb (.pointer (some ⟨tb, 0, none⟩)) (.pointer (some ⟨xb, 0, none⟩))) hs2' (Mod.trans (F := fun k => k = wb) (G := fun k => k = wb) (Mod.setCell W2 ⟨wb, 2, none⟩ (.pointer (some ⟨tb, 0, none⟩)) rfl) (Mod.setCell _ ⟨wb, 3, none⟩ (.pointer (some ⟨xb, 0, none⟩)) rfl) (fun _ e => .inl e)) (hw2.put (.pointer (some ⟨tb, 0, none⟩)) (.pointer (some ⟨xb, 0, none⟩))) (fun k hk => .inl hk)
    have hx1 := strs_of (hs3.all (textsT (.slice na (DS.scan D).1.length nc) (DS.scan D).1) (by simp)).1 hscl
    have hx2 := strs_of (hs3.all (textsT (.slice ya (DS.scan D).1.length yc) (DS.scan D).1) (by simp)).1 hscl
    have hsame := same_at na ya _ _ nc yc (DS.scan D).1 (DS.scan D).1 _ hx1 hx2
    rw [decide_eq_true rfl] at hsame
    have HSAME := Lib.hid hsame
    have HS3 := Lib.hid hs3
    clear hs2 hs2' hw2 hs3 hx1 hx2 hsame
    go_wp2_with fail
    refine HSAME.out.mono ?_
    rintro e w' ⟨rfl, m, rfl⟩
    have HS4 := Lib.hid (HS3.out.drewN m)
    clear HS3
    go_wp2_with fail
    go_ret
    refine ⟨rfl, td, tr, _, _, [tapeT tb b (DS.tape D), rtapeT xb rb (DS.tape D)], HTD.out, HTR.out, .inr ⟨tb, xb, DS.tape D, rfl, rfl, rfl, HBND.out.1, HBND.out.2.1 HGB.out, HBND.out.2.2⟩, ?_⟩
    have hp : ([worldT wb b rb (.pointer (some ⟨tb, 0, none⟩)) (.pointer (some ⟨xb, 0, none⟩)), rtapeT xb rb (DS.tape D), textsT (.slice ya (DS.scan D).1.length yc) (DS.scan D).1, tr, tapeT tb b (DS.tape D), textsT (.slice na (DS.scan D).1.length nc) (DS.scan D).1, td] ++ tl).Perm ([worldT wb b rb (.pointer (some ⟨tb, 0, none⟩)) (.pointer (some ⟨xb, 0, none⟩)), td, tr, tapeT tb b (DS.tape D), rtapeT xb rb (DS.tape D)] ++ ([textsT (.slice ya (DS.scan D).1.length yc) (DS.scan D).1, textsT (.slice na (DS.scan D).1.length nc) (DS.scan D).1] ++ tl)) := by
      rw [← List.append_assoc]
      refine List.Perm.append_right tl (List.Perm.cons _ ?_)
      exact (List.perm_middle (l₁ := [_, _, _, _, _]) (l₂ := [])).trans (List.Perm.cons _ ((List.perm_append_comm (l₁ := [_, _]) (l₂ := [_, _])).append_right [_]))
    exact sep_cut (HS4.out.perm hp)
end Go.Proofs.YteljihpheffjnaaDoor.Tape
/- The law's world while both sides are turned; spoilt. -/
namespace Go.Proofs.YteljihpheffjnaaDoor.Tape
open Go.RowKit Go.Proofs.YteljihpheffjnaaDoor.Ord Go.Proofs.YteljihpheffjnaaDoorW.PrintWords Go.Proofs.YteljihpheffjnaaDoor.Base Go.Proofs.YteljihpheffjnaaDoor.Drum
set_option linter.unusedVariables false
set_option linter.unusedSimpArgs false
attribute [local go_sem] rdl_const rdl_func rdl_global rdl_nil rdl_cons
attribute [local irreducible] OpGives

/-- The document's drum that says what D says. -/
def QS (D : DS) (rb : Nat) (tr : Thing) : Prop := ∃ R, IsRef rb R tr ∧ Sim D R
def Duo (B : Nat) (w : World) (l : List Thing) (b rb : Nat) (D D' : DS) (x y : Bool) (W : World) : Prop :=
  ∃ td tr, IsDrum b (if x then D' else D) td ∧ QS (if y then D' else D) rb tr ∧ Sep B w W (td :: tr :: l)
def Quad (B : Nat) (w : World) (l : List Thing) (b rb tb xb : Nat) (D D' : DS) (T T' : TS) (x y : Bool) (W : World) : Prop :=
  ∃ td tr, IsDrum b (if x then D' else D) td ∧ QS (if y then D' else D) rb tr ∧ Sep B w W (td :: tr :: tapeT tb b (if x then T' else T) :: rtapeT xb rb (if y then T' else T) :: l)
section
variable {B : Nat} {w W : World} {l : List Thing} {b rb tb xb : Nat} {D D' : DS} {T T' : TS} {x y : Bool}
theorem Duo.grown {W' : World} (h : Duo B w l b rb D D' x y W) (hn : NewMem W W') : Duo B w l b rb D D' x y W' := by
  obtain ⟨td, tr, h1, h2, h3⟩ := h; exact ⟨td, tr, h1, h2, h3.grown hn⟩
theorem Quad.grown {W' : World} (h : Quad B w l b rb tb xb D D' T T' x y W) (hn : NewMem W W') : Quad B w l b rb tb xb D D' T T' x y W' := by
  obtain ⟨td, tr, h1, h2, h3⟩ := h; exact ⟨td, tr, h1, h2, h3.grown hn⟩
theorem Duo.thing {t : Thing} (h : Duo B w l b rb D D' x y W) (ht : t ∈ l) : t.P W := by
  obtain ⟨td, tr, _, _, h3⟩ := h
  exact (h3.all t (by simp [ht])).1
theorem Quad.thing {t : Thing} (h : Quad B w l b rb tb xb D D' T T' x y W) (ht : t ∈ l) : t.P W := by
  obtain ⟨td, tr, _, _, h3⟩ := h
  exact (h3.all t (by simp [ht])).1
theorem Duo.left {f : FuncId} {args : Array Value} {v : Int} (h : Duo B w l b rb D D' false y W) (hc : ∀ td l', IsDrum b D td → Sep B w W (td :: l') → Calls Tryd.prog f args W (Turned B w l' b (v, D'))) :
    Calls Tryd.prog f args W fun e W' => e = .returned (.int .i64 v) ∧ Duo B w l b rb D D' true y W' := by
  obtain ⟨td, tr, h1, h2, h3⟩ := h
  exact (hc td _ h1 h3).mono fun e W' ⟨td', he, hd', hs'⟩ => ⟨he, td', tr, hd', h2, hs'⟩
theorem Duo.right {f : FuncId} {args : Array Value} {v : Value} (h : Duo B w l b rb D D' x false W) (hc : ∀ tr R l', IsRef rb R tr → Sim D R → Sep B w W (tr :: l') → Calls Tryd.prog f args W fun e W' => e = .returned v ∧ ∃ R', Sim D' R' ∧ RTurned B w l' rb R' W') :
    Calls Tryd.prog f args W fun e W' => e = .returned v ∧ Duo B w l b rb D D' x true W' := by
  obtain ⟨td, tr, h1, ⟨R, h2, hs⟩, h3⟩ := h
  exact (hc tr R _ h2 hs h3.swap).mono fun e W' ⟨he, R', hsim, tr', hr', hs'⟩ => ⟨he, td, tr', h1, ⟨R', hr', hsim⟩, hs'.swap⟩
theorem permA (a b c d : Thing) (l : List Thing) : (a :: b :: c :: d :: l).Perm (c :: a :: b :: d :: l) := (List.perm_append_comm (l₁ := [a, b]) (l₂ := [c])).append_right (d :: l)
theorem permB (a b c d : Thing) (l : List Thing) : (a :: b :: c :: d :: l).Perm (d :: b :: a :: c :: l) := ((List.perm_append_comm (l₁ := [a, b, c]) (l₂ := [d])).append_right l).trans (List.Perm.cons _ (List.Perm.swap _ _ _))
theorem Quad.left {f : FuncId} {args : Array Value} {v : Int} (h : Quad B w l b rb tb xb D D' T T' false y W) (hc : ∀ td l', IsDrum b D td → Sep B w W (tapeT tb b T :: td :: l') → Calls Tryd.prog f args W (TDid B w l' tb b (v, T', D'))) :
    Calls Tryd.prog f args W fun e W' => e = .returned (.int .i64 v) ∧ Quad B w l b rb tb xb D D' T T' true y W' := by
  obtain ⟨td, tr, h1, h2, h3⟩ := h
  exact (hc td _ h1 (h3.perm (permA _ _ _ _ _))).mono fun e W' ⟨td', he, hd', hs'⟩ => ⟨he, td', tr, hd', h2, hs'.perm (permA _ _ _ _ _).symm⟩
theorem Quad.right {f : FuncId} {args : Array Value} {v : Int} (h : Quad B w l b rb tb xb D D' T T' x false W) (hc : ∀ tr R l', IsRef rb R tr → Sim D R → Sep B w W (rtapeT xb rb T :: tr :: l') → Calls Tryd.prog f args W (RTDid B w l' xb rb (v, T', D'))) :
    Calls Tryd.prog f args W fun e W' => e = .returned (.int .i64 v) ∧ Quad B w l b rb tb xb D D' T T' x true W' := by
  obtain ⟨td, tr, h1, ⟨R, h2, hs⟩, h3⟩ := h
  exact (hc tr R _ h2 hs (h3.perm (permB _ _ _ _ _))).mono fun e W' ⟨tr', R', he, hr', hsim, hs'⟩ => ⟨he, td, tr', h1, ⟨R', hr', hsim⟩, hs'.perm (permB _ _ _ _ _).symm⟩
theorem dw_of {t : Thing} (h : Sep B w W l) (ht : t ∈ l) (hd : IsDrum b D t) : DW D ∧ D.sure.length ≤ 4096 := by
  obtain ⟨sb, cap, lv, rfl⟩ := hd
  have hat : DrumAt W b sb cap lv D := (h.all _ ht).1
  exact ⟨⟨fun j hj => shows_len hat hj, hat.few⟩, hat.few⟩
end
/-- A sector's text with another one at its beginning. -/
def spB (was s : ByteArray) : ByteArray := s.extract 0 (min was.size s.size) ++ was.extract (min was.size s.size) was.size
set_option maxHeartbeats 4000000 in
theorem spoilt_any (was s : ByteArray) (h1 : was.size ≤ 1000) (h2 : s.size ≤ 1000) (w : World) :
    Calls Tryd.prog 48 #[.string was, .string s] w fun e w' => e = .returned (.string (spB was s)) ∧ NewMem w w' := by
  obtain ⟨n, hn⟩ : ∃ n, n = min was.size s.size := ⟨_, rfl⟩
  have hni : min (was.size : Int) (s.size : Int) = (n : Int) := by omega
  have hc1 : 0 ≤ (n : Int) ∧ (n : Int) ≤ (s.size : Int) := by omega
  have hc2 : 0 ≤ (n : Int) ∧ (n : Int) ≤ (was.size : Int) := by omega
  unfold spB
  rw [← hn]
  have hl : ¬ (9223372036854775807 < (s.extract 0 n).size + (was.extract n was.size).size) := by
    rw [ByteArray.size_extract, ByteArray.size_extract]; omega
  go_enter Tryd.func48, Tryd.ntmps48
  go_wp2_with fail
  rw [show (min was.size s.size) = n from hn.symm]
  go_quiet (fail)
  go_wp2_with fail
  go_ret
  exact ⟨by rw [hn]; rfl, below_drewN' (Below.refl _ _)⟩
end Go.Proofs.YteljihpheffjnaaDoor.Tape
/- The law's step: what it leaves; Settle. -/
namespace Go.Proofs.YteljihpheffjnaaDoor.Tape
open Go.RowKit Go.Proofs.YteljihpheffjnaaDoor.Ord Go.Proofs.YteljihpheffjnaaDoorW.PrintWords Go.Proofs.YteljihpheffjnaaDoor.Base Go.Proofs.YteljihpheffjnaaDoor.Drum
set_option linter.unusedVariables false
set_option linter.unusedSimpArgs false
attribute [local go_sem] rdl_const rdl_func rdl_global rdl_nil rdl_cons
attribute [local irreducible] OpGives

/-- Behind a step. -/
def Went (B : Nat) (w : World) (wb b rb N k : Nat) (e : Ending) (W' : World) : Prop :=
  e = .returned (.bool true) ∧ ∃ D' R', Sim D' R' ∧ Gd D' (k + 1) ∧ D'.sure.length = N ∧ PW B w wb b rb D' R' (k + 1) W'
def acells (kind i : Int) (s : ByteArray) (ka : Option Addr) (kn kc : Nat) : Array Value := #[.int .i64 kind, .int .i64 i, .string s, .slice ka kn kc]
def actT (bk : Nat) (kind i : Int) (s : ByteArray) (ka : Option Addr) (kn kc : Nat) : Thing := blockT bk (acells kind i s ka kn kc) 55
theorem act_cells {W : World} {bk : Nat} {kind i : Int} {s : ByteArray} {ka : Option Addr} {kn kc : Nat} (h : (actT bk kind i s ka kn kc).P W) : W.cell? ⟨bk, 0, none⟩ = some (.int .i64 kind) ∧ W.cell? ⟨bk, 1, none⟩ = some (.int .i64 i) ∧ W.cell? ⟨bk, 2, none⟩ = some (.string s) ∧ W.cell? ⟨bk, 3, none⟩ = some (.slice ka kn kc) := by
  have h' : W.heap[bk]? = some (.cells (acells kind i s ka kn kc) 55 (0, 0)) := h
  refine ⟨?_, ?_, ?_, ?_⟩ <;> (rw [Lib.cell_of_heap h']; rfl)
/-- The call is boxed. -/
theorem act_new {B : Nat} {w W : World} {l : List Thing} (h : Sep B w W l) (kind i : Int) (s : ByteArray) (ka : Option Addr) (kn kc : Nat) :
    Sep B w (W.alloc (.cells #[.int .i64 kind, .int .i64 i, .string s, .slice ka kn kc] 55)) (actT W.heap.size kind i s ka kn kc :: l) :=
  h.new (NewMem.alloc _ _) (heap_alloc_last _ _) (fun k hk => by have : k = W.heap.size := hk; omega)
theorem TapeP.more {b rb N k : Nat} {tv xv : Value} {tl : List Thing} (h : TapeP b rb N k tv xv tl) : TapeP b rb N (k + 1) tv xv tl := by
  rcases h with h | ⟨tb, xb, T, h1, h2, h3, h4, h5, h6⟩
  · exact .inl h
  · exact .inr ⟨tb, xb, T, h1, h2, h3, h4, h5, by omega⟩
theorem Gd.more {D : DS} {k : Nat} (h : Gd D k) : Gd D (k + 1) := ⟨h.few, by have := h.loose; omega, h.wide⟩
theorem settle_len (D : DS) : D.settle.2.sure.length = D.sure.length ∧ D.settle.2.loose.length ≤ D.loose.length := by
  unfold DS.settle
  split
  · exact ⟨keepN_len _ _ _ _, Nat.zero_le _⟩
  · exact ⟨by rw [(burn_one D).2.1], by rw [(burn_one D).2.2.1]; exact Nat.le_refl _⟩
theorem tsettle_len (T : TS) (D : DS) : (T.settle D).2.2.sure.length = D.sure.length ∧ (T.settle D).2.2.loose.length ≤ D.loose.length ∧ (T.settle D).2.1.at_ = T.at_ ∧ (T.settle D).2.1.life = T.life ∧ (T.settle D).2.1.count = T.count := by
  unfold TS.settle
  split
  · exact ⟨rfl, Nat.le_refl _, rfl, rfl, rfl⟩
  · exact ⟨(settle_len D).1, (settle_len D).2, rfl, rfl, rfl⟩
theorem tappend_len (T : TS) (D : DS) (s : List UInt8) (hs : s.length ≤ 600) (ha : T.at_ ≤ D.sure.length) : (T.append D s).2.2.sure.length = D.sure.length ∧ (T.append D s).2.2.loose.length ≤ D.loose.length + 100 ∧ (T.append D s).2.1.at_ ≤ D.sure.length ∧ (T.append D s).2.1.life = T.life ∧ (T.append D s).2.1.count ≤ T.count + 1 := by
  have h := append_len T D s
  have hn := needN_le s.length
  refine ⟨h.1, by omega, ?_⟩
  unfold TS.append
  split
  · exact ⟨ha, rfl, Nat.le_add_right _ _⟩
  · split
    · exact ⟨ha, rfl, Nat.le_add_right _ _⟩
    · split
      · refine ⟨?_, rfl, Nat.le_refl _⟩
        show T.at_ + needN s.length ≤ _; omega
      · exact ⟨ha, rfl, Nat.le_add_right _ _⟩
/-- Both sides are turned: the world behind it. -/
theorem quad_went {B : Nat} {w W : World} {wb b rb tb xb k : Nat} {D D' : DS} {T T' : TS} {l : List Thing} {e : Ending} (hg : Gd D k)
    (h : Quad B w (worldT wb b rb (.pointer (some ⟨tb, 0, none⟩)) (.pointer (some ⟨xb, 0, none⟩)) :: l) b rb tb xb D D' T T' true true W)
    (h1 : D'.sure.length = D.sure.length) (h2 : D'.loose.length ≤ D.loose.length + 100) (h3 : T'.at_ ≤ D.sure.length) (h4 : T'.life ≤ 4294967295) (h5 : T'.count ≤ 5000 + (k + 1)) : Went B w wb b rb D.sure.length k (.returned (.bool true)) W := by
  obtain ⟨td, tr, htd, ⟨R, htr, hsim⟩, hsep⟩ := h
  have hsep' : Sep B w W (td :: tr :: tapeT tb b T' :: rtapeT xb rb T' :: worldT wb b rb (.pointer (some ⟨tb, 0, none⟩)) (.pointer (some ⟨xb, 0, none⟩)) :: l) := hsep
  have hd : IsDrum b D' td := htd
  have hw := dw_of hsep' (by simp) hd
  refine ⟨rfl, D', R, hsim, ⟨by rw [h1]; exact hg.few, by have := hg.loose; omega, hw.1⟩, h1, td, tr, _, _, [tapeT tb b T', rtapeT xb rb T'], hd, htr, .inr ⟨tb, xb, T', rfl, rfl, rfl, by rw [h1]; exact h3, h4, h5⟩, ?_⟩
  refine sep_cut (r := l) (hsep'.perm ?_)
  exact List.perm_middle (l₁ := [td, tr, tapeT tb b T', rtapeT xb rb T'])
set_option maxRecDepth 100000 in
set_option maxHeartbeats 16000000 in
theorem step1 {B : Nat} {w W : World} {wb b rb k : Nat} {D : DS} {R : RS} (hP : PW B w wb b rb D R k W) (hs : Sim D R) (hg : Gd D k) (hk : k ≤ 100) (i : Int) (s : ByteArray) (ka : Option Addr) (kn kc : Nat) :
    Calls Tryd.prog 23 #[.pointer (some ⟨wb, 0, none⟩), .agg (acells 1 i s ka kn kc)] W (Went B w wb b rb D.sure.length k) := by
  obtain ⟨td, tr, tv, xv, tl, htd, htr, htp, hsep⟩ := hP
  have hs1 := act_new hsep 1 i s ka kn kc
  obtain ⟨bk, hbk⟩ : ∃ bk, bk = W.heap.size := ⟨_, rfl⟩
  obtain ⟨W1, hW1⟩ : ∃ W1, W1 = W.alloc (.cells #[.int .i64 1, .int .i64 i, .string s, .slice ka kn kc] 55) := ⟨_, rfl⟩
  rw [← hW1, ← hbk] at hs1
  obtain ⟨q0, _, _, _⟩ := act_cells (sep_head hs1)
  have HG := Lib.hid hg
  have HBK := Lib.hid hbk
  have HW1 := Lib.hid hW1
  have HS := Lib.hid hs
  have HTD := Lib.hid htd
  have HTR := Lib.hid htr
  unfold acells
  rcases htp with ⟨rfl, rfl, rfl⟩ | ⟨tb, xb, T, rfl, rfl, rfl, hat, hlf, hct⟩
  · obtain ⟨c0, c1, c2, c3⟩ := WlAt.cells (hs1.all (worldT wb b rb (.pointer none) (.pointer none)) (by simp)).1
    have d3 := c3
    have d2 := c2
    rw [hW1] at d3 d2
    have HS1 := Lib.hid hs1
    have HTN := Lib.hid (tsettle_no (.pointer none) W1 (.inl rfl))
    clear hs1 hsep hg hbk hW1 hs htd htr
    go_enter Tryd.func23, Tryd.ntmps23
    go_wp2_with fail
    rw [← HBK.out, ← HW1.out]
    go_wp2_with fail
    refine HTN.out.mono ?_
    rintro e w' ⟨rfl, rfl⟩
    go_wp2_with fail
    go_ret
    exact ⟨rfl, D, R, HS.out, HG.out.more, rfl, td, tr, _, _, [], HTD.out, HTR.out, .inl ⟨rfl, rfl, rfl⟩, HS1.out.tail⟩
  · obtain ⟨c0, c1, c2, c3⟩ := WlAt.cells (hs1.all (worldT wb b rb (.pointer (some ⟨tb, 0, none⟩)) (.pointer (some ⟨xb, 0, none⟩))) (by simp)).1
    have d3 := c3
    have d2 := c2
    rw [hW1] at d3 d2
    have hq : Quad B w [worldT wb b rb (.pointer (some ⟨tb, 0, none⟩)) (.pointer (some ⟨xb, 0, none⟩)), actT bk 1 i s ka kn kc] b rb tb xb D (T.settle D).2.2 T (T.settle D).2.1 false false W1 := by
      refine ⟨td, tr, htd, ⟨R, htr, hs⟩, hs1.perm ?_⟩
      refine (List.perm_append_comm (l₁ := [_, _]) (l₂ := [td, tr, tapeT tb b T, rtapeT xb rb T])).trans ?_
      exact List.Perm.append_left _ (List.Perm.swap _ _ _)
    have HQ := Lib.hid hq
    have hlen := tsettle_len T D
    have HLEN := Lib.hid hlen
    have HB := Lib.hid (⟨hat, hlf, hct⟩ : T.at_ ≤ D.sure.length ∧ T.life ≤ 4294967295 ∧ T.count ≤ 5000 + k)
    clear hs1 hsep hg hbk hW1 hs htd htr hq hlen hat hlf hct
    go_enter Tryd.func23, Tryd.ntmps23
    go_wp2_with fail
    rw [← HBK.out, ← HW1.out]
    go_wp2_with fail
    refine' wp_region_factsL (S := (fun L W' => Quad B w [worldT wb b rb (.pointer (some ⟨tb, 0, none⟩)) (.pointer (some ⟨xb, 0, none⟩)), actT bk 1 i s ka kn kc] b rb tb xb D (T.settle D).2.2 T (T.settle D).2.1 (L 4) (L 9) W')) [eqF _ _, eqF _ _, eqF _ _, eqF _ (.pointer (some ⟨tb, 0, none⟩)), eqF _ (.int .i64 (T.settle D).1), eqF _ _, eqF _ _, eqF _ _, eqF _ (.pointer (some ⟨xb, 0, none⟩)), eqF _ (.int .i64 (T.settle D).1), eqF _ (.bool true)] (by kernel_rfl) (by kernel_rfl) ?h0 (Ord.stepsL_cons ?s0 (Ord.stepsL_cons ?s1 (Ord.stepsL_cons ?s2 (Ord.stepsL_cons ?s3 (Ord.stepsL_cons ?s4 (Ord.stepsL_cons ?s5 (Ord.stepsL_cons ?s6 (Ord.stepsL_cons ?s7 (Ord.stepsL_cons ?s8 (Ord.stepsL_cons ?s9 (Ord.stepsL_cons ?s10 (Ord.stepsL_nil)))))))))))) ?fin
    case s0 =>
      intro g W L hL hSW hd
      try simp only [Nat.zero_add, Nat.reduceAdd] at hd ⊢
      with_reducible refine OpGives.pre_reads [] 140 ?_ ?_ ?_
      · rfl
      · kernel_rfl
      simp only [List.map_cons, List.map_nil]
      refine OpGives.val (w' := W) ?_ ⟨rfl, hSW⟩
      go_simp
      try with_reducible rfl
    case s1 =>
      intro g W L hL hSW hd
      try simp only [Nat.zero_add, Nat.reduceAdd] at hd ⊢
      have h0 : g 0 = _ := hd 0 (by decide) (by kernel_rfl)
      with_reducible refine OpGives.pre_reads [(22, 0)] 140 ?_ ?_ ?_
      · rfl
      · kernel_rfl
      simp only [List.map_cons, List.map_nil]
      refine OpGives.val (w' := W) ?_ ⟨rfl, hSW⟩
      go_simp
      try with_reducible rfl
    case s2 =>
      intro g W L hL hSW hd
      try simp only [Nat.zero_add, Nat.reduceAdd] at hd ⊢
      have h1 : g 1 = _ := hd 1 (by decide) (by kernel_rfl)
      with_reducible refine OpGives.pre_reads [(23, 1)] 140 ?_ ?_ ?_
      · rfl
      · kernel_rfl
      simp only [List.map_cons, List.map_nil]
      refine OpGives.val (w' := W) ?_ ⟨rfl, hSW⟩
      go_simp
      try with_reducible rfl
    case s3 =>
      intro g W L hL hSW hd
      try simp only [Nat.zero_add, Nat.reduceAdd] at hd ⊢
      have h2 : g 2 = _ := hd 2 (by decide) (by kernel_rfl)
      with_reducible refine OpGives.pre_reads [(24, 2)] 140 ?_ ?_ ?_
      · rfl
      · kernel_rfl
      simp only [List.map_cons, List.map_nil]
      have c := (WlAt.cells (Quad.thing hSW (t := worldT wb b rb (.pointer (some ⟨tb, 0, none⟩)) (.pointer (some ⟨xb, 0, none⟩))) (by simp))).2.2.1; refine OpGives.val (w' := W) ?_ ⟨rfl, hSW⟩; go_simp
    case s4 =>
      intro g W L hL hSW hd
      try simp only [Nat.zero_add, Nat.reduceAdd] at hd ⊢
      have h3 : g 3 = _ := hd 3 (by decide) (by kernel_rfl)
      with_reducible refine OpGives.pre_reads [(25, 3)] 140 ?_ ?_ ?_
      · rfl
      · kernel_rfl
      simp only [List.map_cons, List.map_nil]
      have hT : Quad B w [worldT wb b rb (.pointer (some ⟨tb, 0, none⟩)) (.pointer (some ⟨xb, 0, none⟩)), actT bk 1 i s ka kn kc] b rb tb xb D (T.settle D).2.2 T (T.settle D).2.1 false (L 9) W := by {rw [← hL]; exact hSW}; refine OpGives.call (f := 11) (args := #[.pointer (some ⟨tb, 0, none⟩)]) (w' := W) (by go_simp) ((Quad.left hT (fun td l' hd hsep => tsettle_tape hsep hd (by have := HG.out.loose; omega))).mono fun e w' ⟨he, ht⟩ => ⟨_, he, rfl, ht⟩)
    case s5 =>
      intro g W L hL hSW hd
      try simp only [Nat.zero_add, Nat.reduceAdd] at hd ⊢
      with_reducible refine OpGives.pre_reads [] 140 ?_ ?_ ?_
      · rfl
      · kernel_rfl
      simp only [List.map_cons, List.map_nil]
      refine OpGives.val (w' := W) ?_ ⟨rfl, hSW⟩
      go_simp
      try with_reducible rfl
    case s6 =>
      intro g W L hL hSW hd
      try simp only [Nat.zero_add, Nat.reduceAdd] at hd ⊢
      have h5 : g 5 = _ := hd 5 (by decide) (by kernel_rfl)
      with_reducible refine OpGives.pre_reads [(27, 5)] 140 ?_ ?_ ?_
      · rfl
      · kernel_rfl
      simp only [List.map_cons, List.map_nil]
      refine OpGives.val (w' := W) ?_ ⟨rfl, hSW⟩
      go_simp
      try with_reducible rfl
    case s7 =>
      intro g W L hL hSW hd
      try simp only [Nat.zero_add, Nat.reduceAdd] at hd ⊢
      have h6 : g 6 = _ := hd 6 (by decide) (by kernel_rfl)
      with_reducible refine OpGives.pre_reads [(28, 6)] 140 ?_ ?_ ?_
      · rfl
      · kernel_rfl
      simp only [List.map_cons, List.map_nil]
      refine OpGives.val (w' := W) ?_ ⟨rfl, hSW⟩
      go_simp
      try with_reducible rfl
    case s8 =>
      intro g W L hL hSW hd
      try simp only [Nat.zero_add, Nat.reduceAdd] at hd ⊢
      have h7 : g 7 = _ := hd 7 (by decide) (by kernel_rfl)
      with_reducible refine OpGives.pre_reads [(29, 7)] 140 ?_ ?_ ?_
      · rfl
      · kernel_rfl
      simp only [List.map_cons, List.map_nil]
      have c := (WlAt.cells (Quad.thing hSW (t := worldT wb b rb (.pointer (some ⟨tb, 0, none⟩)) (.pointer (some ⟨xb, 0, none⟩))) (by simp))).2.2.2; refine OpGives.val (w' := W) ?_ ⟨rfl, hSW⟩; go_simp
    case s9 =>
      intro g W L hL hSW hd
      try simp only [Nat.zero_add, Nat.reduceAdd] at hd ⊢
      have h8 : g 8 = _ := hd 8 (by decide) (by kernel_rfl)
      with_reducible refine OpGives.pre_reads [(30, 8)] 140 ?_ ?_ ?_
      · rfl
      · kernel_rfl
      simp only [List.map_cons, List.map_nil]
      have hT : Quad B w [worldT wb b rb (.pointer (some ⟨tb, 0, none⟩)) (.pointer (some ⟨xb, 0, none⟩)), actT bk 1 i s ka kn kc] b rb tb xb D (T.settle D).2.2 T (T.settle D).2.1 (L 4) false W := by {rw [← hL]; exact hSW}; refine OpGives.call (f := 44) (args := #[.pointer (some ⟨xb, 0, none⟩)]) (w' := W) (by go_simp) ((Quad.right hT (fun tr R l' hr hsim hsep => rtsettle_tape hsep hr hsim)).mono fun e w' ⟨he, ht⟩ => ⟨_, he, rfl, ht⟩)
    case s10 =>
      intro g W L hL hSW hd
      try simp only [Nat.zero_add, Nat.reduceAdd] at hd ⊢
      have h4 : g 4 = _ := hd 4 (by decide) (by kernel_rfl)
      have h9 : g 9 = _ := hd 9 (by decide) (by kernel_rfl)
      with_reducible refine OpGives.pre_reads [(26, 4), (31, 9)] 140 ?_ ?_ ?_
      · rfl
      · kernel_rfl
      simp only [List.map_cons, List.map_nil]
      refine OpGives.val (w' := W) ?_ ⟨rfl, hSW⟩
      go_simp
      try with_reducible rfl
    case h0 => exact HQ.out.grown (below_drewN' (n := 1) (Below.refl _ _))
    case fin =>
      intro v W' L hL hSW hf
      have h9 : v 10 = _ := hf 10 (Nat.lt_of_lt_of_eq (by decide : 10 < 11) rfl)
      have hTT : Quad B w [worldT wb b rb (.pointer (some ⟨tb, 0, none⟩)) (.pointer (some ⟨xb, 0, none⟩)), actT bk 1 i s ka kn kc] b rb tb xb D (T.settle D).2.2 T (T.settle D).2.1 true true W' := by
        have l3 := hL 4 (Nat.lt_of_lt_of_eq (by decide : 4 < 11) rfl)
        have l7 := hL 9 (Nat.lt_of_lt_of_eq (by decide : 9 < 11) rfl)
        have hS : Quad B w [worldT wb b rb (.pointer (some ⟨tb, 0, none⟩)) (.pointer (some ⟨xb, 0, none⟩)), actT bk 1 i s ka kn kc] b rb tb xb D (T.settle D).2.2 T (T.settle D).2.1 (L 4) (L 9) W' := hSW
        rw [l3, l7] at hS; exact hS
      clear hf
      generalize hF : Ord.pre _ _ v _ = F
      rw [Ord.pre_lit [some 22, some 23, some 24, some 25, some 26, some 27, some 28, some 29, some 30, some 31, some 32]
        (by kernel_rfl)] at hF
      simp only [Ord.puts, Nat.zero_add, Nat.reduceAdd] at hF
      subst hF
      rw [h9]
      have HT3 := Lib.hid (quad_went (e := .returned (.bool true)) HG.out hTT HLEN.out.1 (by have := HLEN.out; omega) (by have := HLEN.out; have := HB.out; omega) (by have := HLEN.out; have := HB.out; omega) (by have := HLEN.out; have := HB.out; omega))
      clear hTT h9
      refine any_one (i := 11) (by kernel_rfl) ?_
      refine wpOp_value (v := .bool true) (w' := W') rfl rfl (by go_simp) ?_
      refine wpAny_done (by kernel_rfl) ?_ _
      try simp only [List.getElem_toArray, List.getElem_cons_succ, List.getElem_cons_zero]
      go_frame
      go_wp2_with fail
      go_ret
      exact HT3.out
end Go.Proofs.YteljihpheffjnaaDoor.Tape
/- The law's step: Open; Crash and Open; Arm. -/
namespace Go.Proofs.YteljihpheffjnaaDoor.Tape
open Go.RowKit Go.Proofs.YteljihpheffjnaaDoor.Ord Go.Proofs.YteljihpheffjnaaDoorW.PrintWords Go.Proofs.YteljihpheffjnaaDoor.Base Go.Proofs.YteljihpheffjnaaDoor.Drum
set_option linter.unusedVariables false
set_option linter.unusedSimpArgs false
attribute [local go_sem] rdl_const rdl_func rdl_global rdl_nil rdl_cons
attribute [local irreducible] OpGives

/-- The drums are turned: the world behind it. -/
theorem duo_pw {B : Nat} {w W : World} {wb b rb k : Nat} {D D' : DS} {tv xv : Value} {tl l : List Thing} (hg : Gd D k)
    (h : Duo B w (worldT wb b rb tv xv :: (tl ++ l)) b rb D D' true true W) (htp : TapeP b rb D.sure.length k tv xv tl)
    (h1 : D'.sure.length = D.sure.length) (h2 : D'.loose.length ≤ D.loose.length + 100) : ∃ R', Sim D' R' ∧ Gd D' (k + 1) ∧ PW B w wb b rb D' R' k W := by
  obtain ⟨td, tr, htd, ⟨R, htr, hsim⟩, hsep⟩ := h
  have hsep' : Sep B w W (td :: tr :: worldT wb b rb tv xv :: (tl ++ l)) := hsep
  have hd : IsDrum b D' td := htd
  have hw := dw_of hsep' (by simp) hd
  refine ⟨R, hsim, ⟨by rw [h1]; exact hg.few, by have := hg.loose; omega, hw.1⟩, td, tr, tv, xv, tl, hd, htr, by rw [h1]; exact htp, ?_⟩
  refine sep_cut (r := l) (hsep'.perm ?_)
  exact (List.Perm.cons _ (List.Perm.swap _ _ _)).trans (List.Perm.swap _ _ _)
theorem PW.more {B : Nat} {w W : World} {wb b rb k : Nat} {D : DS} {R : RS} (h : PW B w wb b rb D R k W) : PW B w wb b rb D R (k + 1) W := by
  obtain ⟨td, tr, tv, xv, tl, h1, h2, h3, h4⟩ := h
  exact ⟨td, tr, tv, xv, tl, h1, h2, h3.more, h4⟩
theorem duo_start {B : Nat} {w W : World} {wb b rb bk k : Nat} {D D' : DS} {R : RS} {tv xv : Value} {tl : List Thing} {td tr : Thing} {kind i : Int} {s : ByteArray} {ka : Option Addr} {kn kc : Nat}
    (h : Sep B w W (actT bk kind i s ka kn kc :: worldT wb b rb tv xv :: td :: tr :: tl)) (htd : IsDrum b D td) (htr : IsRef rb R tr) (hs : Sim D R) :
    Duo B w (worldT wb b rb tv xv :: (tl ++ [actT bk kind i s ka kn kc])) b rb D D' false false W := by
  refine ⟨td, tr, htd, ⟨R, htr, hs⟩, h.perm ?_⟩
  refine (List.perm_append_comm (l₁ := [_, _]) (l₂ := td :: tr :: tl)).trans ?_
  refine List.Perm.cons _ (List.Perm.cons _ ?_)
  refine (List.perm_append_comm (l₁ := tl) (l₂ := [_, _])).trans ?_
  exact (List.Perm.swap _ _ _).trans (List.Perm.cons _ (List.perm_append_comm (l₁ := [_]) (l₂ := tl)))
set_option maxRecDepth 100000 in
set_option maxHeartbeats 16000000 in
theorem step2 {B : Nat} {w W : World} {wb b rb k : Nat} {D : DS} {R : RS} (hP : PW B w wb b rb D R k W) (hs : Sim D R) (hg : Gd D k) (hk : k ≤ 100) (i : Int) (s : ByteArray) (ka : Option Addr) (kn kc : Nat) :
    Calls Tryd.prog 23 #[.pointer (some ⟨wb, 0, none⟩), .agg (acells 2 i s ka kn kc)] W (Went B w wb b rb D.sure.length k) := by
  obtain ⟨td, tr, tv, xv, tl, htd, htr, htp, hsep⟩ := hP
  have hs1 := act_new hsep 2 i s ka kn kc
  obtain ⟨bk, hbk⟩ : ∃ bk, bk = W.heap.size := ⟨_, rfl⟩
  obtain ⟨W1, hW1⟩ : ∃ W1, W1 = W.alloc (.cells #[.int .i64 2, .int .i64 i, .string s, .slice ka kn kc] 55) := ⟨_, rfl⟩
  rw [← hW1, ← hbk] at hs1
  have hop := wopen (k := k) ⟨td, tr, tv, xv, tl, htd, htr, htp, hs1.tail⟩ hs hg hk
  have HG := Lib.hid hg
  have HBK := Lib.hid hbk
  have HW1 := Lib.hid hW1
  have HS := Lib.hid hs
  have HOP := Lib.hid hop
  unfold acells
  clear hs1 hsep hg hbk hW1 hs htd htr htp hop
  go_enter Tryd.func23, Tryd.ntmps23
  go_wp2_with fail
  rw [← HW1.out]
  refine HOP.out.mono ?_
  rintro e w' ⟨rfl, hp⟩
  have HP := Lib.hid hp
  clear hp
  go_wp2_with fail
  go_ret
  exact ⟨rfl, D, R, HS.out, HG.out.more, rfl, HP.out.more⟩
set_option maxRecDepth 100000 in
set_option maxHeartbeats 16000000 in
theorem step4 {B : Nat} {w W : World} {wb b rb k : Nat} {D : DS} {R : RS} (hP : PW B w wb b rb D R k W) (hs : Sim D R) (hg : Gd D k) (hk : k ≤ 100) (i : Int) (hi : i ≤ 9223372036854775807) (s : ByteArray) (ka : Option Addr) (kn kc : Nat) :
    Calls Tryd.prog 23 #[.pointer (some ⟨wb, 0, none⟩), .agg (acells 4 i s ka kn kc)] W (Went B w wb b rb D.sure.length k) := by
  obtain ⟨td, tr, tv, xv, tl, htd, htr, htp, hsep⟩ := hP
  have hs1 := act_new hsep 4 i s ka kn kc
  obtain ⟨bk, hbk⟩ : ∃ bk, bk = W.heap.size := ⟨_, rfl⟩
  obtain ⟨W1, hW1⟩ : ∃ W1, W1 = W.alloc (.cells #[.int .i64 4, .int .i64 i, .string s, .slice ka kn kc] 55) := ⟨_, rfl⟩
  rw [← hW1, ← hbk] at hs1
  have HG := Lib.hid hg
  have HBK := Lib.hid hbk
  have HW1 := Lib.hid hW1
  have hq := duo_start (k := k) (D' := (D.arm i).2) hs1 htd htr hs
  have harm : (D.arm i).2.sure.length = D.sure.length ∧ (D.arm i).2.loose.length ≤ D.loose.length + 100 := by
    unfold DS.arm
    split
    · exact ⟨rfl, Nat.le_add_right _ _⟩
    · split
      · exact ⟨rfl, Nat.le_add_right _ _⟩
      · exact ⟨rfl, Nat.le_add_right _ _⟩
  have HAR := Lib.hid harm
  have HQ := Lib.hid hq
  have HTP := Lib.hid htp
  have HI := Lib.hid hi
  unfold acells
  clear hs1 hsep hg hbk hW1 hs htd htr htp hq harm hi
  go_enter Tryd.func23, Tryd.ntmps23
  go_wp2_with fail
  rw [← HBK.out, ← HW1.out]
  try go_wp2_with fail
  refine' wp_region_factsL (S := (fun L W' => Duo B w (worldT wb b rb tv xv :: (tl ++ [actT bk 4 i s ka kn kc])) b rb D (D.arm i).2 (L 6) (L 13) W')) [eqF _ _, eqF _ _, eqF _ _, eqF _ (.pointer (some ⟨b, 0, none⟩)), eqF _ _, eqF _ (.int .i64 i), eqF _ (.int .i64 (D.arm i).1), eqF _ _, eqF _ _, eqF _ _, eqF _ (.pointer (some ⟨rb, 0, none⟩)), eqF _ _, eqF _ (.int .i64 i), eqF _ (.int .i64 (D.arm i).1), eqF _ (.bool true)] (by kernel_rfl) (by kernel_rfl) ?h0 (Ord.stepsL_cons ?s0 (Ord.stepsL_cons ?s1 (Ord.stepsL_cons ?s2 (Ord.stepsL_cons ?s3 (Ord.stepsL_cons ?s4 (Ord.stepsL_cons ?s5 (Ord.stepsL_cons ?s6 (Ord.stepsL_cons ?s7 (Ord.stepsL_cons ?s8 (Ord.stepsL_cons ?s9 (Ord.stepsL_cons ?s10 (Ord.stepsL_cons ?s11 (Ord.stepsL_cons ?s12 (Ord.stepsL_cons ?s13 (Ord.stepsL_cons ?s14 (Ord.stepsL_nil)))))))))))))))) ?fin
  case s0 =>
    intro g W L hL hSW hd
    try simp only [Nat.zero_add, Nat.reduceAdd] at hd ⊢
    with_reducible refine OpGives.pre_reads [] 140 ?_ ?_ ?_
    · rfl
    · kernel_rfl
    simp only [List.map_cons, List.map_nil]
    refine OpGives.val (w' := W) ?_ ⟨rfl, hSW⟩
    go_simp
    try with_reducible rfl
  case s1 =>
    intro g W L hL hSW hd
    try simp only [Nat.zero_add, Nat.reduceAdd] at hd ⊢
    have h0 : g 0 = _ := hd 0 (by decide) (by kernel_rfl)
    with_reducible refine OpGives.pre_reads [(60, 0)] 140 ?_ ?_ ?_
    · rfl
    · kernel_rfl
    simp only [List.map_cons, List.map_nil]
    refine OpGives.val (w' := W) ?_ ⟨rfl, hSW⟩
    go_simp
    try with_reducible rfl
  case s2 =>
    intro g W L hL hSW hd
    try simp only [Nat.zero_add, Nat.reduceAdd] at hd ⊢
    have h1 : g 1 = _ := hd 1 (by decide) (by kernel_rfl)
    with_reducible refine OpGives.pre_reads [(61, 1)] 140 ?_ ?_ ?_
    · rfl
    · kernel_rfl
    simp only [List.map_cons, List.map_nil]
    refine OpGives.val (w' := W) ?_ ⟨rfl, hSW⟩
    go_simp
    try with_reducible rfl
  case s3 =>
    intro g W L hL hSW hd
    try simp only [Nat.zero_add, Nat.reduceAdd] at hd ⊢
    have h2 : g 2 = _ := hd 2 (by decide) (by kernel_rfl)
    with_reducible refine OpGives.pre_reads [(62, 2)] 140 ?_ ?_ ?_
    · rfl
    · kernel_rfl
    simp only [List.map_cons, List.map_nil]
    have c := (WlAt.cells (Duo.thing hSW (t := worldT wb b rb tv xv) (by simp))).1; refine OpGives.val (w' := W) ?_ ⟨rfl, hSW⟩; go_simp
  case s4 =>
    intro g W L hL hSW hd
    try simp only [Nat.zero_add, Nat.reduceAdd] at hd ⊢
    with_reducible refine OpGives.pre_reads [] 140 ?_ ?_ ?_
    · rfl
    · kernel_rfl
    simp only [List.map_cons, List.map_nil]
    refine OpGives.val (w' := W) ?_ ⟨rfl, hSW⟩
    go_simp
    try with_reducible rfl
  case s5 =>
    intro g W L hL hSW hd
    try simp only [Nat.zero_add, Nat.reduceAdd] at hd ⊢
    have h4 : g 4 = _ := hd 4 (by decide) (by kernel_rfl)
    with_reducible refine OpGives.pre_reads [(64, 4)] 140 ?_ ?_ ?_
    · rfl
    · kernel_rfl
    simp only [List.map_cons, List.map_nil]
    have c := (act_cells (Duo.thing hSW (t := actT bk 4 i s ka kn kc) (by simp))).2.1; refine OpGives.val (w' := W) ?_ ⟨rfl, hSW⟩; go_simp
  case s6 =>
    intro g W L hL hSW hd
    try simp only [Nat.zero_add, Nat.reduceAdd] at hd ⊢
    have h3 : g 3 = _ := hd 3 (by decide) (by kernel_rfl)
    have h5 : g 5 = _ := hd 5 (by decide) (by kernel_rfl)
    with_reducible refine OpGives.pre_reads [(63, 3), (65, 5)] 140 ?_ ?_ ?_
    · rfl
    · kernel_rfl
    simp only [List.map_cons, List.map_nil]
    have hT : Duo B w (worldT wb b rb tv xv :: (tl ++ [actT bk 4 i s ka kn kc])) b rb D (D.arm i).2 false (L 13) W := by {rw [← hL]; exact hSW}; refine OpGives.call (f := 28) (args := #[.pointer (some ⟨b, 0, none⟩), .int .i64 i]) (w' := W) (by go_simp) ((Duo.left hT (fun td l' hd hsep => arm_sep hsep hd i)).mono fun e w' ⟨he, ht⟩ => ⟨_, he, rfl, ht⟩)
  case s7 =>
    intro g W L hL hSW hd
    try simp only [Nat.zero_add, Nat.reduceAdd] at hd ⊢
    with_reducible refine OpGives.pre_reads [] 140 ?_ ?_ ?_
    · rfl
    · kernel_rfl
    simp only [List.map_cons, List.map_nil]
    refine OpGives.val (w' := W) ?_ ⟨rfl, hSW⟩
    go_simp
    try with_reducible rfl
  case s8 =>
    intro g W L hL hSW hd
    try simp only [Nat.zero_add, Nat.reduceAdd] at hd ⊢
    have h7 : g 7 = _ := hd 7 (by decide) (by kernel_rfl)
    with_reducible refine OpGives.pre_reads [(67, 7)] 140 ?_ ?_ ?_
    · rfl
    · kernel_rfl
    simp only [List.map_cons, List.map_nil]
    refine OpGives.val (w' := W) ?_ ⟨rfl, hSW⟩
    go_simp
    try with_reducible rfl
  case s9 =>
    intro g W L hL hSW hd
    try simp only [Nat.zero_add, Nat.reduceAdd] at hd ⊢
    have h8 : g 8 = _ := hd 8 (by decide) (by kernel_rfl)
    with_reducible refine OpGives.pre_reads [(68, 8)] 140 ?_ ?_ ?_
    · rfl
    · kernel_rfl
    simp only [List.map_cons, List.map_nil]
    refine OpGives.val (w' := W) ?_ ⟨rfl, hSW⟩
    go_simp
    try with_reducible rfl
  case s10 =>
    intro g W L hL hSW hd
    try simp only [Nat.zero_add, Nat.reduceAdd] at hd ⊢
    have h9 : g 9 = _ := hd 9 (by decide) (by kernel_rfl)
    with_reducible refine OpGives.pre_reads [(69, 9)] 140 ?_ ?_ ?_
    · rfl
    · kernel_rfl
    simp only [List.map_cons, List.map_nil]
    have c := (WlAt.cells (Duo.thing hSW (t := worldT wb b rb tv xv) (by simp))).2.1; refine OpGives.val (w' := W) ?_ ⟨rfl, hSW⟩; go_simp
  case s11 =>
    intro g W L hL hSW hd
    try simp only [Nat.zero_add, Nat.reduceAdd] at hd ⊢
    with_reducible refine OpGives.pre_reads [] 140 ?_ ?_ ?_
    · rfl
    · kernel_rfl
    simp only [List.map_cons, List.map_nil]
    refine OpGives.val (w' := W) ?_ ⟨rfl, hSW⟩
    go_simp
    try with_reducible rfl
  case s12 =>
    intro g W L hL hSW hd
    try simp only [Nat.zero_add, Nat.reduceAdd] at hd ⊢
    have h11 : g 11 = _ := hd 11 (by decide) (by kernel_rfl)
    with_reducible refine OpGives.pre_reads [(71, 11)] 140 ?_ ?_ ?_
    · rfl
    · kernel_rfl
    simp only [List.map_cons, List.map_nil]
    have c := (act_cells (Duo.thing hSW (t := actT bk 4 i s ka kn kc) (by simp))).2.1; refine OpGives.val (w' := W) ?_ ⟨rfl, hSW⟩; go_simp
  case s13 =>
    intro g W L hL hSW hd
    try simp only [Nat.zero_add, Nat.reduceAdd] at hd ⊢
    have h10 : g 10 = _ := hd 10 (by decide) (by kernel_rfl)
    have h12 : g 12 = _ := hd 12 (by decide) (by kernel_rfl)
    with_reducible refine OpGives.pre_reads [(70, 10), (72, 12)] 140 ?_ ?_ ?_
    · rfl
    · kernel_rfl
    simp only [List.map_cons, List.map_nil]
    have hT : Duo B w (worldT wb b rb tv xv :: (tl ++ [actT bk 4 i s ka kn kc])) b rb D (D.arm i).2 (L 6) false W := by {rw [← hL]; exact hSW}; refine OpGives.call (f := 46) (args := #[.pointer (some ⟨rb, 0, none⟩), .int .i64 i]) (w' := W) (by go_simp) ((Duo.right (v := .int .i64 (D.arm i).1) hT (fun tr R l' hr hsim hsep => (rarm_sep hsep hr i).mono fun e W' ⟨he, hd⟩ => ⟨by rw [he, (sim_arm hsim i HI.out).1], (R.arm i).2, (sim_arm hsim i HI.out).2, hd⟩)).mono fun e w' ⟨he, ht⟩ => ⟨_, he, rfl, ht⟩)
  case s14 =>
    intro g W L hL hSW hd
    try simp only [Nat.zero_add, Nat.reduceAdd] at hd ⊢
    have h6 : g 6 = _ := hd 6 (by decide) (by kernel_rfl)
    have h13 : g 13 = _ := hd 13 (by decide) (by kernel_rfl)
    with_reducible refine OpGives.pre_reads [(66, 6), (73, 13)] 140 ?_ ?_ ?_
    · rfl
    · kernel_rfl
    simp only [List.map_cons, List.map_nil]
    refine OpGives.val (w' := W) ?_ ⟨rfl, hSW⟩
    go_simp
    try with_reducible rfl
  case h0 => exact HQ.out.grown (below_drewN' (n := 1) (Below.refl _ _))
  case fin =>
    intro v W' L hL hSW hf
    have h9 : v 14 = _ := hf 14 (Nat.lt_of_lt_of_eq (by decide : 14 < 15) rfl)
    have hTT : Duo B w (worldT wb b rb tv xv :: (tl ++ [actT bk 4 i s ka kn kc])) b rb D (D.arm i).2 true true W' := by
      have l3 := hL 6 (Nat.lt_of_lt_of_eq (by decide : 6 < 15) rfl)
      have l7 := hL 13 (Nat.lt_of_lt_of_eq (by decide : 13 < 15) rfl)
      have hS : Duo B w (worldT wb b rb tv xv :: (tl ++ [actT bk 4 i s ka kn kc])) b rb D (D.arm i).2 (L 6) (L 13) W' := hSW
      rw [l3, l7] at hS; exact hS
    clear hf
    generalize hF : Ord.pre _ _ v _ = F
    rw [Ord.pre_lit [some 60, some 61, some 62, some 63, some 64, some 65, some 66, some 67, some 68, some 69, some 70, some 71, some 72, some 73, some 74]
      (by kernel_rfl)] at hF
    simp only [Ord.puts, Nat.zero_add, Nat.reduceAdd] at hF
    subst hF
    rw [h9]
    have HT3 := Lib.hid (duo_pw HG.out hTT HTP.out HAR.out.1 HAR.out.2)
    clear hTT h9
    refine any_one (i := 15) (by kernel_rfl) ?_
    refine wpOp_value (v := .bool true) (w' := W') rfl rfl (by go_simp) ?_
    refine wpAny_done (by kernel_rfl) ?_ _
    try simp only [List.getElem_toArray, List.getElem_cons_succ, List.getElem_cons_zero]
    go_frame
    go_wp2_with fail
    go_ret
    obtain ⟨R', h1, h2, h3⟩ := HT3.out
    exact ⟨rfl, _, R', h1, h2, HAR.out.1, h3.more⟩
end Go.Proofs.YteljihpheffjnaaDoor.Tape
/- The law's step: a crash, and Open. -/
namespace Go.Proofs.YteljihpheffjnaaDoor.Tape
open Go.RowKit Go.Proofs.YteljihpheffjnaaDoor.Ord Go.Proofs.YteljihpheffjnaaDoorW.PrintWords Go.Proofs.YteljihpheffjnaaDoor.Base Go.Proofs.YteljihpheffjnaaDoor.Drum
set_option linter.unusedVariables false
set_option linter.unusedSimpArgs false
attribute [local go_sem] rdl_const rdl_func rdl_global rdl_nil rdl_cons
attribute [local irreducible] OpGives

/-- While the drums crash and are opened. -/
def Crs (B : Nat) (w : World) (wb b rb bk k : Nat) (D D' : DS) (tv xv : Value) (tl : List Thing) (i : Int) (s : ByteArray) (ka : Option Addr) (kn kc : Nat) (L : Nat → Bool) (g : Nat → Value) (W : World) : Prop :=
  (L 10 = false → Duo B w (worldT wb b rb tv xv :: (tl ++ [actT bk 3 i s ka kn kc])) b rb D D' (L 6) true W) ∧ (L 10 = true → ∃ R', Sim D' R' ∧ Gd D' (k + 1) ∧ PW B w wb b rb D' R' k W)
theorem Crs.keep {B : Nat} {w W : World} {wb b rb bk k : Nat} {D D' : DS} {tv xv : Value} {tl : List Thing} {i : Int} {s : ByteArray} {ka : Option Addr} {kn kc : Nat} {L : Nat → Bool} {g : Nat → Value} (h : Crs B w wb b rb bk k D D' tv xv tl i s ka kn kc L g W) (j : Nat) (v : Value) (h6 : 6 ≠ j) (h10 : 10 ≠ j) :
    Crs B w wb b rb bk k D D' tv xv tl i s ka kn kc (fun x => if x = j then true else L x) (upd g j v) W := by
  refine ⟨fun e => ?_, fun e => ?_⟩
  · have e' : (if (10 : Nat) = j then true else L 10) = false := e
    rw [if_neg h10] at e'
    have := h.1 e'
    show Duo B w _ b rb D D' (if (6 : Nat) = j then true else L 6) true W
    rw [if_neg h6]; exact this
  · have e' : (if (10 : Nat) = j then true else L 10) = true := e
    rw [if_neg h10] at e'
    exact h.2 e'
theorem gd_drop {D : DS} {k : Nat} (h : Gd D (k + 1)) (h2 : D.loose.length ≤ 1000) : Gd D k := ⟨h.few, by omega, h.wide⟩
set_option maxRecDepth 100000 in
set_option maxHeartbeats 16000000 in
theorem step3 {B : Nat} {w W : World} {wb b rb k : Nat} {D : DS} {R : RS} (hP : PW B w wb b rb D R k W) (hs : Sim D R) (hg : Gd D k) (hk : k ≤ 100) (i : Int) (s : ByteArray) (ka : Option Addr) (kn kc : Nat) (zs : List Int) (hz : IntsAt w ka kn zs) (ho : 0 < kn → ∀ ad, ka = some ad → ad.block < B) :
    Calls Tryd.prog 23 #[.pointer (some ⟨wb, 0, none⟩), .agg (acells 3 i s ka kn kc)] W (Went B w wb b rb D.sure.length k) := by
  obtain ⟨td, tr, tv, xv, tl, htd, htr, htp, hsep⟩ := hP
  have hs1 := act_new hsep 3 i s ka kn kc
  obtain ⟨bk, hbk⟩ : ∃ bk, bk = W.heap.size := ⟨_, rfl⟩
  obtain ⟨W1, hW1⟩ : ∃ W1, W1 = W.alloc (.cells #[.int .i64 3, .int .i64 i, .string s, .slice ka kn kc] 55) := ⟨_, rfl⟩
  rw [← hW1, ← hbk] at hs1
  have notin : ∀ (t : Thing) (l' : List Thing) (W' : World), Sep B w W' (t :: l') → 0 < kn → ∀ ad, ka = some ad → ¬ t.F ad.block := fun td l' W' hsep h0 ad e hF => by
    have h1 := (hsep.all td List.mem_cons_self).2 _ hF
    have h2 := ho h0 ad e
    omega
  have HG := Lib.hid hg
  have HBK := Lib.hid hbk
  have HW1 := Lib.hid hW1
  have NI := Lib.hid notin
  have HZ := Lib.hid hz
  have HO := Lib.hid ho
  have hq := duo_start (k := k) (D' := D.crash zs) hs1 htd htr hs
  have hcrl : (D.crash zs).sure.length = D.sure.length ∧ (D.crash zs).loose.length ≤ D.loose.length + 100 ∧ (D.crash zs).loose.length ≤ 1000 := ⟨keepN_len _ _ _ _, Nat.zero_le _, Nat.zero_le _⟩
  have HAR := Lib.hid hcrl
  have HQ := Lib.hid hq
  have HTP := Lib.hid htp
  have HK := Lib.hid hk
  unfold acells
  clear hs1 hsep hg hbk hW1 hs htd htr htp hq hcrl hz ho notin hk
  go_enter Tryd.func23, Tryd.ntmps23
  go_wp2_with fail
  rw [← HBK.out, ← HW1.out]
  try go_wp2_with fail
  refine' wp_region_factsL (S := (fun L W' => Duo B w (worldT wb b rb tv xv :: (tl ++ [actT bk 3 i s ka kn kc])) b rb D (D.crash zs) false (L 6) W')) [eqF _ _, eqF _ _, eqF _ _, eqF _ (.pointer (some ⟨rb, 0, none⟩)), eqF _ _, eqF _ (.slice ka kn kc), eqF _ (.tuple #[])] (by kernel_rfl) (by kernel_rfl) ?h0 (Ord.stepsL_cons ?s0 (Ord.stepsL_cons ?s1 (Ord.stepsL_cons ?s2 (Ord.stepsL_cons ?s3 (Ord.stepsL_cons ?s4 (Ord.stepsL_cons ?s5 (Ord.stepsL_cons ?s6 (Ord.stepsL_nil)))))))) ?fin
  case s0 =>
    intro g W L hL hSW hd
    try simp only [Nat.zero_add, Nat.reduceAdd] at hd ⊢
    with_reducible refine OpGives.pre_reads [] 140 ?_ ?_ ?_
    · rfl
    · kernel_rfl
    simp only [List.map_cons, List.map_nil]
    refine OpGives.val (w' := W) ?_ ⟨rfl, hSW⟩
    go_simp
    try with_reducible rfl
  case s1 =>
    intro g W L hL hSW hd
    try simp only [Nat.zero_add, Nat.reduceAdd] at hd ⊢
    have h0 : g 0 = _ := hd 0 (by decide) (by kernel_rfl)
    with_reducible refine OpGives.pre_reads [(39, 0)] 140 ?_ ?_ ?_
    · rfl
    · kernel_rfl
    simp only [List.map_cons, List.map_nil]
    refine OpGives.val (w' := W) ?_ ⟨rfl, hSW⟩
    go_simp
    try with_reducible rfl
  case s2 =>
    intro g W L hL hSW hd
    try simp only [Nat.zero_add, Nat.reduceAdd] at hd ⊢
    have h1 : g 1 = _ := hd 1 (by decide) (by kernel_rfl)
    with_reducible refine OpGives.pre_reads [(40, 1)] 140 ?_ ?_ ?_
    · rfl
    · kernel_rfl
    simp only [List.map_cons, List.map_nil]
    refine OpGives.val (w' := W) ?_ ⟨rfl, hSW⟩
    go_simp
    try with_reducible rfl
  case s3 =>
    intro g W L hL hSW hd
    try simp only [Nat.zero_add, Nat.reduceAdd] at hd ⊢
    have h2 : g 2 = _ := hd 2 (by decide) (by kernel_rfl)
    with_reducible refine OpGives.pre_reads [(41, 2)] 140 ?_ ?_ ?_
    · rfl
    · kernel_rfl
    simp only [List.map_cons, List.map_nil]
    have c := (WlAt.cells (Duo.thing hSW (t := worldT wb b rb tv xv) (by simp))).2.1; refine OpGives.val (w' := W) ?_ ⟨rfl, hSW⟩; go_simp
  case s4 =>
    intro g W L hL hSW hd
    try simp only [Nat.zero_add, Nat.reduceAdd] at hd ⊢
    with_reducible refine OpGives.pre_reads [] 140 ?_ ?_ ?_
    · rfl
    · kernel_rfl
    simp only [List.map_cons, List.map_nil]
    refine OpGives.val (w' := W) ?_ ⟨rfl, hSW⟩
    go_simp
    try with_reducible rfl
  case s5 =>
    intro g W L hL hSW hd
    try simp only [Nat.zero_add, Nat.reduceAdd] at hd ⊢
    have h4 : g 4 = _ := hd 4 (by decide) (by kernel_rfl)
    with_reducible refine OpGives.pre_reads [(43, 4)] 140 ?_ ?_ ?_
    · rfl
    · kernel_rfl
    simp only [List.map_cons, List.map_nil]
    have c := (act_cells (Duo.thing hSW (t := actT bk 3 i s ka kn kc) (by simp))).2.2.2; refine OpGives.val (w' := W) ?_ ⟨rfl, hSW⟩; go_simp
  case s6 =>
    intro g W L hL hSW hd
    try simp only [Nat.zero_add, Nat.reduceAdd] at hd ⊢
    have h3 : g 3 = _ := hd 3 (by decide) (by kernel_rfl)
    have h5 : g 5 = _ := hd 5 (by decide) (by kernel_rfl)
    with_reducible refine OpGives.pre_reads [(42, 3), (44, 5)] 140 ?_ ?_ ?_
    · rfl
    · kernel_rfl
    simp only [List.map_cons, List.map_nil]
    have hT : Duo B w (worldT wb b rb tv xv :: (tl ++ [actT bk 3 i s ka kn kc])) b rb D (D.crash zs) false false W := by {have h0 : L 6 = false := hL; have h' : Duo B w (worldT wb b rb tv xv :: (tl ++ [actT bk 3 i s ka kn kc])) b rb D (D.crash zs) false (L 6) W := hSW; rw [h0] at h'; exact h'}; refine OpGives.call (f := 45) (args := #[.pointer (some ⟨rb, 0, none⟩), .slice ka kn kc]) (w' := W) (by go_simp) ((Duo.right (v := .tuple #[]) hT (fun tr R l' hr hsim hsep => (rcrash_sep hsep hr ka kn kc zs (HZ.out.later HO.out hsep) (NI.out tr l' _ hsep)).mono fun e W' ⟨he, hd⟩ => ⟨he, R.crash zs, sim_crash hsim zs, hd⟩)).mono fun e w' ⟨he, ht⟩ => ⟨_, he, rfl, ht⟩)
  case h0 => exact HQ.out.grown (below_drewN' (n := 1) (Below.refl _ _))
  case fin =>
    intro v W' L hL hSW hf
    have h9 : v 6 = _ := hf 6 (Nat.lt_of_lt_of_eq (by decide : 6 < 7) rfl)
    have hTT : Duo B w (worldT wb b rb tv xv :: (tl ++ [actT bk 3 i s ka kn kc])) b rb D (D.crash zs) false true W' := by
      have l7 := hL 6 (Nat.lt_of_lt_of_eq (by decide : 6 < 7) rfl)
      have hS : Duo B w (worldT wb b rb tv xv :: (tl ++ [actT bk 3 i s ka kn kc])) b rb D (D.crash zs) false (L 6) W' := hSW
      rw [l7] at hS; exact hS
    clear hf
    generalize hF : Ord.pre _ _ v _ = F
    rw [Ord.pre_lit [some 39, some 40, some 41, some 42, some 43, some 44, some 45]
      (by kernel_rfl)] at hF
    simp only [Ord.puts, Nat.zero_add, Nat.reduceAdd] at hF
    subst hF
    rw [h9]
    have HT3 := Lib.hid hTT
    clear hTT h9
    refine wpAny_done (by kernel_rfl) ?_ _
    try simp only [List.getElem_toArray, List.getElem_cons_succ, List.getElem_cons_zero]
    go_frame
    go_wp2_with fail
    refine' wp_region_factsG (sz := 140) (S := (Crs B w wb b rb bk k D (D.crash zs) tv xv tl i s ka kn kc)) (fun _ _ _ => True) [eqM _, eqM _, eqM _, eqM (.pointer (some ⟨b, 0, none⟩)), eqM _, eqM (.slice ka kn kc), eqM (.int .i64 0), eqM (.bool true), eqM (.bool true), eqM _, eqM (.bool true), eqM (.bool true)] (by kernel_rfl) (by kernel_rfl) rfl (guardsM_of [(8, true)] (n := 12) rfl (by kernel_rfl) ⟨fun _ _ h => h, trivial⟩) ?hst ?h0 (Ord.stepsG_cons ?s0 (Ord.stepsG_cons ?s1 (Ord.stepsG_cons ?s2 (Ord.stepsG_cons ?s3 (Ord.stepsG_cons ?s4 (Ord.stepsG_cons ?s5 (Ord.stepsG_cons ?s6 (Ord.stepsG_cons ?s7 (Ord.stepsG_cons ?s8 (Ord.stepsG_cons ?s9 (Ord.stepsG_cons ?s10 (Ord.stepsG_cons ?s11 (Ord.stepsG_nil))))))))))))) ?fin
    case s0 =>
      intro g W L hL hWt hCl hSW hd
      try simp only [Nat.zero_add, Nat.reduceAdd] at hd ⊢
      with_reducible refine OpGives.pre_reads [] 140 ?_ ?_ ?_
      · rfl
      · kernel_rfl
      simp only [List.map_cons, List.map_nil]
      refine OpGives.val (w' := W) ?_ ⟨trivial, rfl, (Crs.keep hSW _ _ (by decide) (by decide))⟩
      go_simp
      try with_reducible rfl
    case s1 =>
      intro g W L hL hWt hCl hSW hd
      try simp only [Nat.zero_add, Nat.reduceAdd] at hd ⊢
      have h0 : g 0 = _ := hd 0 (by decide) (by kernel_rfl)
      with_reducible refine OpGives.pre_reads [(46, 0)] 140 ?_ ?_ ?_
      · rfl
      · kernel_rfl
      simp only [List.map_cons, List.map_nil]
      refine OpGives.val (w' := W) ?_ ⟨trivial, rfl, (Crs.keep hSW _ _ (by decide) (by decide))⟩
      go_simp
      try with_reducible rfl
    case s2 =>
      intro g W L hL hWt hCl hSW hd
      try simp only [Nat.zero_add, Nat.reduceAdd] at hd ⊢
      have h1 : g 1 = _ := hd 1 (by decide) (by kernel_rfl)
      with_reducible refine OpGives.pre_reads [(47, 1)] 140 ?_ ?_ ?_
      · rfl
      · kernel_rfl
      simp only [List.map_cons, List.map_nil]
      refine OpGives.val (w' := W) ?_ ⟨trivial, rfl, (Crs.keep hSW _ _ (by decide) (by decide))⟩
      go_simp
      try with_reducible rfl
    case s3 =>
      intro g W L hL hWt hCl hSW hd
      try simp only [Nat.zero_add, Nat.reduceAdd] at hd ⊢
      have h2 : g 2 = _ := hd 2 (by decide) (by kernel_rfl)
      with_reducible refine OpGives.pre_reads [(48, 2)] 140 ?_ ?_ ?_
      · rfl
      · kernel_rfl
      simp only [List.map_cons, List.map_nil]
      have n10 : L 10 = false := by {cases h : L 10 with | false => rfl | true => exact absurd (hCl 6 3 (hCl 7 6 (hCl 8 7 (hCl 10 8 h (by kernel_rfl)) (by kernel_rfl)) (by kernel_rfl)) (by kernel_rfl)) (by rw [hL]; decide)}; have c := (WlAt.cells (Duo.thing (hSW.1 n10) (t := worldT wb b rb tv xv) (by simp))).1; refine OpGives.val (w' := W) ?_ ⟨trivial, rfl, Crs.keep hSW _ _ (by decide) (by decide)⟩; go_simp
    case s4 =>
      intro g W L hL hWt hCl hSW hd
      try simp only [Nat.zero_add, Nat.reduceAdd] at hd ⊢
      with_reducible refine OpGives.pre_reads [] 140 ?_ ?_ ?_
      · rfl
      · kernel_rfl
      simp only [List.map_cons, List.map_nil]
      refine OpGives.val (w' := W) ?_ ⟨trivial, rfl, (Crs.keep hSW _ _ (by decide) (by decide))⟩
      go_simp
      try with_reducible rfl
    case s5 =>
      intro g W L hL hWt hCl hSW hd
      try simp only [Nat.zero_add, Nat.reduceAdd] at hd ⊢
      have h4 : g 4 = _ := hd 4 (by decide) (by kernel_rfl)
      with_reducible refine OpGives.pre_reads [(50, 4)] 140 ?_ ?_ ?_
      · rfl
      · kernel_rfl
      simp only [List.map_cons, List.map_nil]
      have n10 : L 10 = false := by {cases h : L 10 with | false => rfl | true => exact absurd (hCl 6 5 (hCl 7 6 (hCl 8 7 (hCl 10 8 h (by kernel_rfl)) (by kernel_rfl)) (by kernel_rfl)) (by kernel_rfl)) (by rw [hL]; decide)}; have c := (act_cells (Duo.thing (hSW.1 n10) (t := actT bk 3 i s ka kn kc) (by simp))).2.2.2; refine OpGives.val (w' := W) ?_ ⟨trivial, rfl, Crs.keep hSW _ _ (by decide) (by decide)⟩; go_simp
    case s6 =>
      intro g W L hL hWt hCl hSW hd
      try simp only [Nat.zero_add, Nat.reduceAdd] at hd ⊢
      have h3 : g 3 = _ := hd 3 (by decide) (by kernel_rfl)
      have h5 : g 5 = _ := hd 5 (by decide) (by kernel_rfl)
      with_reducible refine OpGives.pre_reads [(49, 3), (51, 5)] 140 ?_ ?_ ?_
      · rfl
      · kernel_rfl
      simp only [List.map_cons, List.map_nil]
      have n10 : L 10 = false := by {cases h : L 10 with | false => rfl | true => exact absurd (hCl 7 6 (hCl 8 7 (hCl 10 8 h (by kernel_rfl)) (by kernel_rfl)) (by kernel_rfl)) (by rw [hL]; decide)}; have hT : Duo B w (worldT wb b rb tv xv :: (tl ++ [actT bk 3 i s ka kn kc])) b rb D (D.crash zs) false true W := by {have := hSW.1 n10; rw [hL] at this; exact this}; refine OpGives.call (f := 17) (args := #[.pointer (some ⟨b, 0, none⟩), .slice ka kn kc]) (w' := W) (by go_simp) ((Duo.left (v := 0) hT (fun td l' hd hsep => crash_sep hsep hd (by have := HG.out.loose; have := HK.out; omega) ka kn kc zs (HZ.out.later HO.out hsep) (NI.out td l' _ hsep))).mono fun e w' ⟨he, ht⟩ => ⟨_, he, trivial, rfl, (fun _ => ht), (fun h => by have h' : L 10 = true := h; rw [n10] at h'; cases h')⟩)
    case s7 =>
      intro g W L hL hWt hCl hSW hd
      try simp only [Nat.zero_add, Nat.reduceAdd] at hd ⊢
      have h6 : g 6 = _ := hd 6 (by decide) (by kernel_rfl)
      with_reducible refine OpGives.pre_reads [(52, 6)] 140 ?_ ?_ ?_
      · rfl
      · kernel_rfl
      simp only [List.map_cons, List.map_nil]
      refine OpGives.val (w' := W) ?_ ⟨trivial, rfl, (Crs.keep hSW _ _ (by decide) (by decide))⟩
      go_simp
      try with_reducible rfl
    case s8 =>
      intro g W L hL hWt hCl hSW hd
      try simp only [Nat.zero_add, Nat.reduceAdd] at hd ⊢
      have h7 : g 7 = _ := hd 7 (by decide) (by kernel_rfl)
      with_reducible refine OpGives.pre_reads [(53, 7)] 140 ?_ ?_ ?_
      · rfl
      · kernel_rfl
      simp only [List.map_cons, List.map_nil]
      refine OpGives.val (w' := W) ?_ ⟨trivial, rfl, (Crs.keep hSW _ _ (by decide) (by decide))⟩
      go_simp
      try with_reducible rfl
    case s9 =>
      intro g W L hL hWt hCl hSW hd
      try simp only [Nat.zero_add, Nat.reduceAdd] at hd ⊢
      with_reducible refine OpGives.pre_reads [] 140 ?_ ?_ ?_
      · rfl
      · kernel_rfl
      simp only [List.map_cons, List.map_nil]
      refine OpGives.val (w' := W) ?_ ⟨trivial, rfl, (Crs.keep hSW _ _ (by decide) (by decide))⟩
      go_simp
      try with_reducible rfl
    case s10 =>
      intro g W L hL hWt hCl hSW hd
      try simp only [Nat.zero_add, Nat.reduceAdd] at hd ⊢
      have h9 : g 9 = _ := hd 9 (by decide) (by kernel_rfl)
      with_reducible refine OpGives.pre_reads [(55, 9)] 140 ?_ ?_ ?_
      · rfl
      · kernel_rfl
      simp only [List.map_cons, List.map_nil]
      have l6 : L 6 = true := hCl 7 6 (hCl 8 7 (hWt 8 (by kernel_rfl)) (by kernel_rfl)) (by kernel_rfl); have hT : Duo B w (worldT wb b rb tv xv :: (tl ++ [actT bk 3 i s ka kn kc])) b rb D (D.crash zs) true true W := by {have := hSW.1 hL; rw [l6] at this; exact this}; obtain ⟨R', hs1, hg1, hp1⟩ := duo_pw HG.out hT HTP.out HAR.out.1 HAR.out.2.1; refine OpGives.call (f := 22) (args := #[.pointer (some ⟨wb, 0, none⟩)]) (w' := W) (by go_simp) ((wopen hp1 hs1 (gd_drop hg1 HAR.out.2.2) HK.out).mono fun e w' ⟨he, ht⟩ => ⟨_, he, trivial, rfl, (fun h => by have h' : true = false := h; cases h'), (fun _ => ⟨R', hs1, hg1, ht⟩)⟩)
    case s11 =>
      intro g W L hL hWt hCl hSW hd
      try simp only [Nat.zero_add, Nat.reduceAdd] at hd ⊢
      have h8 : g 8 = _ := hd 8 (by decide) (by kernel_rfl)
      have h10 : g 10 = _ := hd 10 (by decide) (by kernel_rfl)
      with_reducible refine OpGives.pre_reads [(54, 8), (56, 10)] 140 ?_ ?_ ?_
      · rfl
      · kernel_rfl
      simp only [List.map_cons, List.map_nil]
      refine OpGives.val (w' := W) ?_ ⟨trivial, rfl, (Crs.keep hSW _ _ (by decide) (by decide))⟩
      go_simp
      try with_reducible rfl
    case hst =>
      refine fun i j v w w' _ h _ => st_of (R := fun _ _ => True) ?_ i v w w' h trivial
      repeat' first
        | exact trivial
        | with_reducible refine StL.eq ?_
        | with_reducible refine StL.any ?_
    case h0 => exact ⟨fun _ => HT3.out.grown (below_drewN' (n := 1) (Below.refl _ _)), fun h => by cases h⟩
    case fin =>
      intro v W2 L hL hSW hf
      have h9 : v 11 = _ := hf 11 (Nat.lt_of_lt_of_eq (by decide : 11 < 12) rfl)
      have hp := hSW.2 (hL 10 (Nat.lt_of_lt_of_eq (by decide : 10 < 12) rfl))
      have HP := Lib.hid hp
      clear hf hSW hL hp
      generalize hF : Ord.pre _ _ v _ = F
      rw [Ord.pre_lit [some 46, some 47, some 48, some 49, some 50, some 51, some 52, some 53, some 54, some 55, some 56, some 57]
        (by kernel_rfl)] at hF
      simp only [Ord.puts, Nat.zero_add, Nat.reduceAdd] at hF
      subst hF
      rw [h9]
      clear h9
      refine any_one (i := 12) (by kernel_rfl) ?_
      refine wpOp_value (v := .bool true) (w' := W2) rfl rfl (by go_simp) ?_
      refine wpAny_done (by kernel_rfl) ?_ _
      try simp only [List.getElem_toArray, List.getElem_cons_succ, List.getElem_cons_zero]
      go_frame
      go_wp2_with fail
      go_ret
      obtain ⟨R', h1, h2, h3⟩ := HP.out
      exact ⟨rfl, _, R', h1, h2, HAR.out.1, h3.more⟩
end Go.Proofs.YteljihpheffjnaaDoor.Tape
