/- Texts of one proof, joined: Fa, Fb, Fc, Fd, Fe, Ff, Fg. -/
import Derived.Test.YteljihpheffjnaaDoorZE
set_option linter.unusedSimpArgs false
set_option linter.unusedVariables false
/- The document's drum: plain states, how they lie in memory; burnt, Arm, Sure, Shows, Read. -/
namespace Go.Proofs.YteljihpheffjnaaDoor.Drum
open Go.RowKit Go.Proofs.YteljihpheffjnaaDoor.Ord Go.Proofs.YteljihpheffjnaaDoorW.PrintWords Go.Proofs.YteljihpheffjnaaDoor.Base
set_option linter.unusedVariables false
set_option linter.unusedSimpArgs false

/-- The document's drum in plain terms. -/
structure RS where
  S : List ByteArray
  W : List (Int × ByteArray)
  fuse : Int
  gone : Bool
def strCells (l : List ByteArray) : List Value := l.map Value.string
def putCells (l : List (Int × ByteArray)) : List Value := l.flatMap fun p => [Value.int .i64 p.1, Value.string p.2]
def RCell (w : World) (b : Nat) (sv wv : Value) (fuse : Int) (gone : Bool) : Prop :=
  w.heap[b]? = some (.cells #[sv, wv, .int .i64 fuse, .bool gone] 79 (0, 0))
section
variable {w : World} {b : Nat} {sv wv : Value} {fuse : Int} {gone : Bool}
theorem RCell.cells (h : RCell w b sv wv fuse gone) : w.cell? ⟨b, 0, none⟩ = some sv ∧ w.cell? ⟨b, 1, none⟩ = some wv ∧ w.cell? ⟨b, 2, none⟩ = some (.int .i64 fuse) ∧ w.cell? ⟨b, 3, none⟩ = some (.bool gone) := by
  unfold RCell at h; simp [World.cell?, h]
theorem RCell.free (h : RCell w b sv wv fuse gone) (i : Nat) : w.frozen? ⟨b, i, none⟩ = false := frozen_of_row w b i _ _ h
theorem RCell.lt (h : RCell w b sv wv fuse gone) : b < w.heap.size := (Array.getElem?_eq_some_iff.1 h).1
theorem RCell.kept {F : Nat → Prop} {w' : World} (h : RCell w b sv wv fuse gone) (hm : Mod F w w') (hb : ¬ F b) : RCell w' b sv wv fuse gone := (hm.block b h.lt hb).trans h
theorem RCell.set0 (h : RCell w b sv wv fuse gone) (v : Value) : RCell (w.setCell ⟨b, 0, none⟩ v) b v wv fuse gone := cells_set h 0 v
theorem RCell.set1 (h : RCell w b sv wv fuse gone) (v : Value) : RCell (w.setCell ⟨b, 1, none⟩ v) b sv v fuse gone := cells_set h 1 v
theorem RCell.set2 (h : RCell w b sv wv fuse gone) (v : Int) : RCell (w.setCell ⟨b, 2, none⟩ (.int .i64 v)) b sv wv v gone := cells_set h 2 _
theorem RCell.set3 (h : RCell w b sv wv fuse gone) (v : Bool) : RCell (w.setCell ⟨b, 3, none⟩ (.bool v)) b sv wv fuse v := cells_set h 3 _
end
/-- A row's block is no struct's. -/
theorem ownsRow_ne {w : World} {e t : TypeId} {s : Nat} {v : Value} {n : Nat} {xs : List Value} {b : Nat} {cs : Array Value} {fr : Nat × Nat} (h : w.ownsRow 0 e s v n xs) (hb : w.heap[b]? = some (.cells cs t fr)) (he : e ≠ t) : v.ownBlock ≠ some b := by
  intro hk
  rcases h.2 with ⟨rfl, _⟩ | ⟨g, cap, cur, rfl, _, hg, _⟩
  · simp [Value.ownBlock] at hk
  · simp [Value.ownBlock] at hk
    subst hk
    rw [hg] at hb
    injection hb with hb
    injection hb with _ hb _
    exact he hb
theorem ownsRow_slice {w : World} {e : TypeId} {s : Nat} {v : Value} {n : Nat} {xs : List Value} (h : w.ownsRow 0 e s v n xs) : ∃ a cap, v = .slice a n cap ∧ (0 < n → ∃ g, a = some ⟨g, 0, none⟩) := by
  rcases h.2 with ⟨rfl, rfl⟩ | ⟨g, cap, cur, rfl, _⟩
  · exact ⟨none, 0, rfl, fun h => absurd h (by decide)⟩
  · exact ⟨_, cap, rfl, fun _ => ⟨g, rfl⟩⟩
theorem ownsRow_cell {w : World} {e : TypeId} {s n cap g j : Nat} {xs : List Value} {u : Value} (h : w.ownsRow 0 e s (.slice (some ⟨g, 0, none⟩) n cap) n xs) (hu : xs[j]? = some u) : w.cell? ⟨g, j, none⟩ = some u := by
  have := h.cells rfl j u hu
  have hadd : (⟨g, 0, none⟩ : Addr).add j = ⟨g, j, none⟩ := by unfold Addr.add; split <;> simp_all
  rwa [hadd] at this
theorem ownsRow_free {w : World} {e : TypeId} {s n cap g : Nat} {xs : List Value} (h : w.ownsRow 0 e s (.slice (some ⟨g, 0, none⟩) n cap) n xs) (j : Nat) : w.frozen? ⟨g, j, none⟩ = false := by
  rcases h.2 with ⟨e, _⟩ | ⟨g', cap', cur, e, _, hg, _⟩
  · cases e
  · injection e with e1; injection e1 with e1; injection e1 with e1; subst e1
    exact frozen_of_row w _ j cur _ hg
theorem putCells_at {l : List (Int × ByteArray)} {k : Nat} {p : Int × ByteArray} (h : l[k]? = some p) : (putCells l)[k * 2]? = some (.int .i64 p.1) ∧ (putCells l)[k * 2 + 1]? = some (.string p.2) := by
  induction l generalizing k with
  | nil => simp at h
  | cons q l ih =>
    cases k with
    | zero => simp at h; subst h; exact ⟨rfl, rfl⟩
    | succ k =>
      have := ih (k := k) (by simpa using h)
      have e1 : (k + 1) * 2 = (k * 2) + 2 := by omega
      have e2 : (k + 1) * 2 + 1 = (k * 2 + 1) + 2 := by omega
      rw [e2, e1]
      unfold putCells at this ⊢
      rw [List.flatMap_cons]
      exact this
theorem putCells_len (l : List (Int × ByteArray)) : (putCells l).length = l.length * 2 := by
  unfold putCells; induction l with
  | nil => rfl
  | cons q l ih => rw [List.flatMap_cons, List.length_append, ih, List.length_cons]; simp; omega

/-- The document's drum at block b. -/
structure RefAt (w : World) (b : Nat) (sv wv : Value) (R : RS) : Prop where
  cell : RCell w b sv wv R.fuse R.gone
  s : w.ownsRow 0 9 1 sv R.S.length (strCells R.S)
  w : w.ownsRow 0 107 2 wv R.W.length (putCells R.W)
  few : R.S.length ≤ 4096
  fewW : R.W.length ≤ 1000000
  at' : ∀ q ∈ R.W, 0 ≤ q.1 ∧ q.1 < (R.S.length : Int)
def rfoot (b : Nat) (sv wv : Value) (k : Nat) : Prop := k = b ∨ sv.ownBlock = some k ∨ wv.ownBlock = some k
section
variable {w : World} {b : Nat} {sv wv : Value} {R : RS}
theorem RefAt.kept {F : Nat → Prop} {w' : World} (h : RefAt w b sv wv R) (hm : Mod F w w') (hF : ∀ k, rfoot b sv wv k → ¬ F k) : RefAt w' b sv wv R :=
  ⟨h.cell.kept hm (hF b (.inl rfl)), ownsRow_mod h.s hm (fun k hk => hF k (.inr (.inl hk))), ownsRow_mod h.w hm (fun k hk => hF k (.inr (.inr hk))), h.few, h.fewW, h.at'⟩
theorem RefAt.neS (h : RefAt w b sv wv R) : sv.ownBlock ≠ some b := ownsRow_ne h.s h.cell (by decide)
theorem RefAt.neW (h : RefAt w b sv wv R) : wv.ownBlock ≠ some b := ownsRow_ne h.w h.cell (by decide)
theorem RefAt.lt (h : RefAt w b sv wv R) (k : Nat) (hk : rfoot b sv wv k) : k < w.heap.size := by
  rcases hk with rfl | hk | hk
  · exact h.cell.lt
  · exact (h.s.lt k hk).2
  · exact (h.w.lt k hk).2
/-- The struct's own cells turned. -/
theorem RefAt.struct {w' : World} (h : RefAt w b sv wv R) (fuse : Int) (gone : Bool) (hc : RCell w' b sv wv fuse gone) (hm : Mod (fun k => k = b) w w') : RefAt w' b sv wv { R with fuse := fuse, gone := gone } :=
  ⟨hc, ownsRow_mod h.s hm (fun k hk e => h.neS (by rw [hk, e])), ownsRow_mod h.w hm (fun k hk e => h.neW (by rw [hk, e])), h.few, h.fewW, h.at'⟩
theorem RefAt.str (h : RefAt w b sv wv R) {g n cap : Nat} (hv : sv = .slice (some ⟨g, 0, none⟩) n cap) {k : Nat} {s : ByteArray} (hs : R.S[k]? = some s) : w.cell? ⟨g, k, none⟩ = some (.string s) := by
  subst hv
  have hn : n = R.S.length := by rcases h.s.2 with ⟨e, _⟩ | ⟨_, _, _, e, _⟩ <;> cases e; rfl
  have := h.s
  rw [hn] at this
  exact ownsRow_cell this (by unfold strCells; rw [List.getElem?_map, hs]; rfl)
theorem RefAt.put (h : RefAt w b sv wv R) {g n cap : Nat} (hv : wv = .slice (some ⟨g, 0, none⟩) n cap) {k : Nat} {q : Int × ByteArray} (hs : R.W[k]? = some q) : w.cell? ⟨g, k * 2, none⟩ = some (.int .i64 q.1) ∧ w.cell? ⟨g, k * 2 + 1, none⟩ = some (.string q.2) := by
  subst hv
  have hn : n = R.W.length := by rcases h.w.2 with ⟨e, _⟩ | ⟨_, _, _, e, _⟩ <;> cases e; rfl
  have := h.w
  rw [hn] at this
  exact ⟨ownsRow_cell this (putCells_at hs).1, ownsRow_cell this (putCells_at hs).2⟩
end
/-- A call that turned the document's drum to R'. -/
def RDid (w : World) (b : Nat) (sv wv : Value) (R' : RS) (w' : World) : Prop :=
  ∃ sv' wv', RefAt w' b sv' wv' R' ∧ (∀ k, rfoot b sv' wv' k → rfoot b sv wv k ∨ w.heap.size ≤ k) ∧ Mod (rfoot b sv wv) w w'
theorem RDid.same {w : World} {b : Nat} {sv wv : Value} {R : RS} (h : RefAt w b sv wv R) : RDid w b sv wv R w := ⟨sv, wv, h, fun _ h => .inl h, Mod.refl _ _⟩

def RS.burnt (R : RS) : Bool × RS := (R.gone || R.fuse == 0, { R with gone := R.gone || R.fuse == 0, fuse := if 0 < R.fuse then R.fuse - 1 else R.fuse })
set_option maxRecDepth 100000 in
set_option maxHeartbeats 4000000 in
theorem burnt_at (b : Nat) (sv wv : Value) (R : RS) (w : World) (h : RefAt w b sv wv R) (hf : R.fuse ≤ 9223372036854775807) :
    Calls Tryd.prog 66 #[.pointer (some ⟨b, 0, none⟩)] w fun e w' => e = .returned (.bool R.burnt.1) ∧ RefAt w' b sv wv R.burnt.2 ∧ Mod (fun k => k = b) w w' := by
  obtain ⟨c0, c1, c2, c3⟩ := h.cell.cells
  have f2 := h.cell.free 2
  have f3 := h.cell.free 3
  have H := Lib.hid h
  clear h c0 c1
  obtain ⟨S, Wl, fuse, gone⟩ := R
  simp only at c2 c3 hf
  by_cases h0 : fuse = 0
  · subst h0
    have e : (RS.mk S Wl 0 gone).burnt = (true, RS.mk S Wl 0 true) := by simp [RS.burnt]
    rw [e]
    clear e
    go_enter Tryd.func66, Tryd.ntmps66
    go_wp2
    go_ret
    have hm : Mod (fun k => k = b) w (w.setCell ⟨b, 3, none⟩ (.bool true)) := Mod.setCell _ _ _ rfl
    exact ⟨rfl, H.out.struct 0 true (H.out.cell.set3 true) hm, hm⟩
  · by_cases h1 : 0 < fuse
    · have e : (RS.mk S Wl fuse gone).burnt = (gone, RS.mk S Wl (fuse - 1) gone) := by simp [RS.burnt, h0, h1]
      rw [e]
      clear e
      go_enter Tryd.func66, Tryd.ntmps66
      go_wp2
      go_ret
      have hm : Mod (fun k => k = b) w (w.setCell ⟨b, 2, none⟩ (.int .i64 (fuse - 1))) := Mod.setCell _ _ _ rfl
      exact ⟨rfl, H.out.struct (fuse - 1) gone (H.out.cell.set2 _) hm, hm⟩
    · have e : (RS.mk S Wl fuse gone).burnt = (gone, RS.mk S Wl fuse gone) := by simp [RS.burnt, h0, h1]
      rw [e]
      clear e
      go_enter Tryd.func66, Tryd.ntmps66
      go_wp2
      go_ret
      exact ⟨rfl, H.out, Mod.refl _ _⟩
def RS.arm (R : RS) (n : Int) : Int × RS := if n < 0 then (2, R) else if R.gone then (9, R) else (0, { R with fuse := n })
set_option maxRecDepth 100000 in
set_option maxHeartbeats 4000000 in
theorem rarm_at (b : Nat) (sv wv : Value) (R : RS) (n : Int) (w : World) (h : RefAt w b sv wv R) :
    Calls Tryd.prog 46 #[.pointer (some ⟨b, 0, none⟩), .int .i64 n] w fun e w' => e = .returned (.int .i64 (R.arm n).1) ∧ RDid w b sv wv (R.arm n).2 w' := by
  obtain ⟨c0, c1, c2, c3⟩ := h.cell.cells
  have f2 := h.cell.free 2
  have H := Lib.hid h
  clear h c0 c1
  obtain ⟨S, Wl, fuse, gone⟩ := R
  simp only at c2 c3
  unfold RS.arm
  by_cases h0 : n < 0
  · rw [if_pos h0]
    go_enter Tryd.func46, Tryd.ntmps46
    go_wp2
    go_ret
    exact ⟨rfl, RDid.same H.out⟩
  · have h0' : ¬ n < 0 := h0
    rw [if_neg h0]
    cases gone with
    | true =>
      go_enter Tryd.func46, Tryd.ntmps46
      go_wp2
      go_ret
      exact ⟨rfl, RDid.same H.out⟩
    | false =>
      go_enter Tryd.func46, Tryd.ntmps46
      go_wp2
      go_ret
      have hm : Mod (fun k => k = b) w (w.setCell ⟨b, 2, none⟩ (.int .i64 n)) := Mod.setCell _ _ _ rfl
      exact ⟨rfl, sv, wv, H.out.struct n false (H.out.cell.set2 _) hm, fun k hk => .inl hk, hm.mono (fun _ e => .inl e)⟩
def RS.sureText (R : RS) (i : Int) : ByteArray := if 0 ≤ i ∧ i < (R.S.length : Int) then R.S.getD i.toNat ByteArray.empty else ByteArray.empty
/-- What a sector shows: the last of what was written to it. -/
def showsN (l : List (Int × ByteArray)) (i : Int) (s : ByteArray) : ByteArray := l.foldl (fun s q => if q.1 = i then q.2 else s) s
def RS.shows (R : RS) (i : Nat) : ByteArray := showsN R.W (i : Int) (R.S.getD i ByteArray.empty)
set_option maxRecDepth 100000 in
set_option maxHeartbeats 4000000 in
theorem rshows_at (b : Nat) (sv wv : Value) (R : RS) (j : Nat) (w : World) (h : RefAt w b sv wv R) (hj : j < R.S.length) :
    Calls Tryd.prog 65 #[.pointer (some ⟨b, 0, none⟩), .int .i64 (j : Int)] w fun e w' => e = .returned (.string (R.shows j)) ∧ w = w' := by
  obtain ⟨a, cap, hsv, ha⟩ := ownsRow_slice h.s
  obtain ⟨a', cap', hwv, ha'⟩ := ownsRow_slice h.w
  have c0 := h.cell.cells.1
  have c1 := h.cell.cells.2.1
  rw [hsv] at c0
  rw [hwv] at c1
  obtain ⟨g, rfl⟩ := ha (by omega)
  obtain ⟨s, hs⟩ : ∃ s, s = R.S.getD j ByteArray.empty := ⟨_, rfl⟩
  have cs := h.str hsv (k := j) (s := s) (by rw [hs]; simp [List.getElem?_eq_getElem hj])
  have HW := Lib.hid hwv
  have H := Lib.hid h
  have HA := Lib.hid ha'
  unfold RS.shows
  rw [← hs]
  have hfw := h.fewW
  clear h hsv hwv hs ha ha'
  obtain ⟨n, hn⟩ : ∃ n, n = R.S.length := ⟨_, rfl⟩
  rw [← hn] at c0 hj
  clear hn
  obtain ⟨m, hm⟩ : ∃ m, m = R.W.length := ⟨_, rfl⟩
  rw [← hm] at c1 hfw
  have HM := Lib.hid hm
  clear hm
  go_enter Tryd.func65, Tryd.ntmps65
  go_wp2_with fail
  go_loop [5, 6] (fun t i => ∃ k : Nat, k ≤ m ∧ i = .int .i64 (k : Int) ∧ t = .string (showsN (R.W.take k) (j : Int) s)) (fun _ i => m - (intOf i).toNat)
  case atStart => exact ⟨0, Nat.zero_le _, rfl, rfl⟩
  case round =>
    obtain ⟨k, hk, rfl, rfl⟩ := hrel
    by_cases hlt : k < m
    · obtain ⟨g', rfl⟩ := HA.out (by have := HM.out; omega)
      obtain ⟨⟨qi, qs⟩, hq⟩ : ∃ q, R.W[k]? = some q := ⟨_, List.getElem?_eq_getElem (by have := HM.out; omega)⟩
      obtain ⟨cq1, cq2⟩ := H.out.put HW.out hq
      simp only at cq1 cq2
      have hst : showsN (R.W.take (k + 1)) (j : Int) s = if qi = (j : Int) then qs else showsN (R.W.take k) (j : Int) s := by
        unfold showsN
        rw [List.take_add_one, hq]; simp
      have HST := Lib.hid hst
      clear hst hq
      by_cases he : qi = (j : Int)
      · subst he
        go_wp2_with fail
        go_round
        case rel => exact ⟨k + 1, by omega, by go_num, by rw [HST.out, if_pos rfl]⟩
        case measure => simp [intOf]; omega
      · have he' : (qi == (j : Int)) = false := by simpa using he
        go_wp2_with fail
        go_round
        case rel => exact ⟨k + 1, by omega, by go_num, by rw [HST.out, if_neg he]⟩
        case measure => simp [intOf]; omega
    · have hkm : k = m := by omega
      have hall : R.W.take k = R.W := List.take_of_length_le (by have := HM.out; omega)
      have HALL := Lib.hid hall
      clear hall hkm
      go_wp2_with fail
      go_ret
      exact ⟨by rw [HALL.out]; rfl, rfl⟩
def RS.read (R : RS) (i : Int) : ByteArray × Int := if R.gone then (ByteArray.empty, 9) else if 0 ≤ i ∧ i < (R.S.length : Int) then (R.shows i.toNat, 0) else (ByteArray.empty, 6)
set_option maxRecDepth 100000 in
set_option maxHeartbeats 4000000 in
theorem rread_at (b : Nat) (sv wv : Value) (R : RS) (i : Int) (w : World) (h : RefAt w b sv wv R) :
    Calls Tryd.prog 47 #[.pointer (some ⟨b, 0, none⟩), .int .i64 i] w fun e w' => e = .returned (.tuple #[.string (R.read i).1, .int .i64 (R.read i).2]) ∧ w = w' := by
  obtain ⟨a, cap, hsv, ha⟩ := ownsRow_slice h.s
  obtain ⟨c0, _, _, c3⟩ := h.cell.cells
  rw [hsv] at c0
  unfold RS.read
  cases hg : R.gone with
  | true =>
    rw [hg] at c3
    rw [if_pos rfl]
    clear h hsv ha hg
    go_enter Tryd.func47, Tryd.ntmps47
    go_wp2
    go_ret2
    exact ⟨rfl, rfl⟩
  | false =>
    rw [hg] at c3
    rw [if_neg (by simp)]
    clear hg
    by_cases h0 : 0 ≤ i
    · by_cases h1 : i < (R.S.length : Int)
      · rw [if_pos ⟨h0, h1⟩]
        obtain ⟨j, rfl⟩ : ∃ j : Nat, i = (j : Int) := ⟨i.toNat, by omega⟩
        have hs := rshows_at b sv wv R j w h (by omega)
        rw [Int.toNat_natCast]
        generalize R.shows j = s at *
        have HS := Lib.hid hs
        clear h hsv hs ha
        obtain ⟨n, hn⟩ : ∃ n, n = R.S.length := ⟨_, rfl⟩
        rw [← hn] at c0 h1
        clear hn
        go_enter Tryd.func47, Tryd.ntmps47
        go_wp2_with fail
        refine HS.out.mono ?_
        rintro e w' ⟨rfl, rfl⟩
        go_wp2
        go_ret2
        exact ⟨rfl, rfl⟩
      · rw [if_neg (by omega)]
        have h1' : (R.S.length : Int) ≤ i := by omega
        obtain ⟨n, hn⟩ : ∃ n, n = R.S.length := ⟨_, rfl⟩
        rw [← hn] at c0 h1'
        clear hn h hsv ha h1
        go_enter Tryd.func47, Tryd.ntmps47
        go_wp2
        go_ret2
        exact ⟨rfl, rfl⟩
    · rw [if_neg (by omega)]
      have h0' : i < 0 := by omega
      clear h hsv ha
      go_enter Tryd.func47, Tryd.ntmps47
      go_wp2
      go_ret2
      exact ⟨rfl, rfl⟩
end Go.Proofs.YteljihpheffjnaaDoor.Drum
/- The document's drum: Write, New. -/
namespace Go.Proofs.YteljihpheffjnaaDoor.Drum
open Go.RowKit Go.Proofs.YteljihpheffjnaaDoor.Ord Go.Proofs.YteljihpheffjnaaDoorW.PrintWords Go.Proofs.YteljihpheffjnaaDoor.Base
set_option linter.unusedVariables false
set_option linter.unusedSimpArgs false
attribute [local go_sem] rdl_const rdl_func rdl_global rdl_nil rdl_cons

theorem info_put : (Tryd.prog.info? 107).map (fun i => (i.zero, i.size, i.bytes)) = some (some (.agg #[.int .i64 0, .string ByteArray.empty]), 2, 24) := by kernel_rfl
theorem info_str : (Tryd.prog.info? 9).map (fun i => (i.zero, i.size, i.bytes)) = some (some (.string ByteArray.empty), 1, 16) := by kernel_rfl
theorem putCells_snoc (l : List (Int × ByteArray)) (q : Int × ByteArray) : putCells (l ++ [q]) = putCells l ++ [.int .i64 q.1, .string q.2] := by simp [putCells]
def RS.write (R : RS) (i : Int) (s : ByteArray) : Int × RS :=
  if i < 0 ∨ (R.S.length : Int) ≤ i ∨ s.size ≠ 64 then (2, R) else if R.burnt.1 then (9, R.burnt.2) else (0, { R.burnt.2 with W := R.W ++ [(i, s)] })
theorem RefAt.pushed {w1 w' : World} {b : Nat} {sv wv : Value} {R : RS} {i : Int} {s : ByteArray} {g cap : Nat} (h : RefAt w1 b sv wv R) (hf : R.W.length < 1000000) (hi : 0 ≤ i ∧ i < (R.S.length : Int))
    (hm : Mod (fun k => wv.ownBlock = some k) w1 w') (hown : w'.ownsRow 0 107 2 (.slice (some ⟨g, 0, none⟩) (R.W.length + 1) cap) (R.W.length + 1) (putCells R.W ++ [.int .i64 i, .string s]))
    (hat : wv.ownBlock = some g ∨ w1.heap.size ≤ g) :
    RDid w1 b sv wv { R with W := R.W ++ [(i, s)] } (w'.setCell ⟨b, 1, none⟩ (.slice (some ⟨g, 0, none⟩) (R.W.length + 1) cap)) := by
  have hc' := h.cell.kept hm h.neW
  have hgb : g ≠ b := by
    rcases hat with e | e
    · intro x; exact h.neW (by rw [e, x])
    · have := h.cell.lt; omega
  have hs' := ownsRow_mod h.s hm (fun k hk => ownsRow_apart h.s h.w (by decide) k hk)
  have hmb : Mod (fun k => k = b) w' (w'.setCell ⟨b, 1, none⟩ (.slice (some ⟨g, 0, none⟩) (R.W.length + 1) cap)) := Mod.setCell _ _ _ rfl
  refine ⟨sv, .slice (some ⟨g, 0, none⟩) (R.W.length + 1) cap, ⟨hc'.set1 _, ownsRow_mod hs' hmb (fun k hk e => h.neS (by rw [hk, e])), ?_, h.few, ?_, ?_⟩, ?_, ?_⟩
  · have := ownsRow_mod hown hmb (fun k hk e => hgb (by simp [Value.ownBlock] at hk; omega))
    rw [← putCells_snoc R.W (i, s)] at this
    simpa using this
  · simp; omega
  · intro q hq
    rcases List.mem_append.1 hq with hq | hq
    · exact h.at' q hq
    · rw [List.mem_singleton.1 hq]; exact hi
  · intro k hk
    rcases hk with e | e | e
    · exact .inl (.inl e)
    · exact .inl (.inr (.inl e))
    · simp [Value.ownBlock] at e
      subst e
      rcases hat with e | e
      · exact .inl (.inr (.inr e))
      · exact .inr e
  · exact (hm.mono (fun k e => Or.inr (Or.inr e))).trans hmb (fun k e => .inl (.inl e))
theorem grown_mod {w1 w' : World} {o : Obj} {v : Value} (h : (w1.alloc o).grownBy w' v.ownBlock) : Mod (fun k => v.ownBlock = some k) w1 w' :=
  (Mod.of_below (NewMem.alloc w1 o) : Mod (fun k => v.ownBlock = some k) w1 (w1.alloc o)).trans (Mod.of_grown (F := fun k => v.ownBlock = some k) h (fun k hk => hk)) (fun _ e => .inl e)
theorem RDid.after {w w1 w' : World} {b : Nat} {sv wv : Value} {R R' : RS} (h : RefAt w b sv wv R) (hm : Mod (fun k => k = b) w w1) (hd : RDid w1 b sv wv R' w') : RDid w b sv wv R' w' := by
  obtain ⟨sv', wv', ha, hk, hm'⟩ := hd
  exact ⟨sv', wv', ha, fun k e => (hk k e).imp id (fun e => Nat.le_trans hm.size e), (hm.mono (fun k e => Or.inl e)).trans hm' (fun k e => .inl e)⟩
set_option maxRecDepth 100000 in
set_option maxHeartbeats 8000000 in
theorem rwrite_at (b : Nat) (sv wv : Value) (R : RS) (i : Int) (s : ByteArray) (w : World) (h : RefAt w b sv wv R) (hf : R.fuse ≤ 9223372036854775807) (hW : R.W.length < 1000000) (hsz : s.size ≤ maxLen) :
    Calls Tryd.prog 49 #[.pointer (some ⟨b, 0, none⟩), .int .i64 i, .string s] w fun e w' => e = .returned (.int .i64 (R.write i s).1) ∧ RDid w b sv wv (R.write i s).2 w' := by
  obtain ⟨a, cap, hsv, ha⟩ := ownsRow_slice h.s
  have c0 := h.cell.cells.1
  rw [hsv] at c0
  have cb := burnt_at b sv wv R w h hf
  have CB := Lib.hid cb
  have H := Lib.hid h
  unfold maxLen at hsz
  unfold RS.write
  obtain ⟨n, hn⟩ : ∃ n, n = R.S.length := ⟨_, rfl⟩
  rw [← hn] at c0 ⊢
  have HN := Lib.hid hn
  clear h cb hsv ha hn
  by_cases h0 : i < 0
  · rw [if_pos (.inl h0)]
    go_enter Tryd.func49, Tryd.ntmps49
    go_wp2
    go_ret
    exact ⟨rfl, RDid.same H.out⟩
  · have h0' : 0 ≤ i := by omega
    by_cases h1 : (n : Int) ≤ i
    · rw [if_pos (.inr (.inl h1))]
      go_enter Tryd.func49, Tryd.ntmps49
      go_wp2
      go_ret
      exact ⟨rfl, RDid.same H.out⟩
    · have h1' : i < (n : Int) := by omega
      by_cases h2 : s.size = 64
      · rw [if_neg (by rintro (x | x | x) <;> omega)]
        have h2i : (s.size : Int) = 64 := by omega
        cases hb : R.burnt.1 with
        | true =>
          rw [if_pos rfl]
          have HB := Lib.hid hb
          clear hb
          go_enter Tryd.func49, Tryd.ntmps49
          go_wp2_with fail
          refine CB.out.mono ?_
          rintro e w1 ⟨rfl, h1r, hm1⟩
          rw [HB.out]
          have HD := Lib.hid (RDid.after H.out hm1 (RDid.same h1r))
          clear h1r hm1
          go_wp2
          go_ret
          exact ⟨rfl, HD.out⟩
        | false =>
          rw [if_neg (by simp)]
          have HB := Lib.hid hb
          clear hb
          obtain ⟨i0, hi, hz0, hz1, hz2⟩ := info_parts info_put
          go_enter Tryd.func49, Tryd.ntmps49
          go_wp2_with fail
          refine CB.out.mono ?_
          rintro e w1 ⟨rfl, h1r, hm1⟩
          rw [HB.out]
          have k1 := h1r.cell.cells.2.1
          have kf := fun w' (hm : Mod (fun k => wv.ownBlock = some k) w1 w') => (h1r.cell.kept hm h1r.neW).free 1
          have kc := fun w' (hm : Mod (fun k => wv.ownBlock = some k) w1 w') => (h1r.cell.kept hm h1r.neW).cells.2.1
          have H1 := Lib.hid h1r
          have HM := Lib.hid hm1
          have KF := Lib.hid kf
          have KC := Lib.hid kc
          clear h1r hm1 kf kc
          have hnews : ∀ j u, [Value.int .i64 i, Value.string s][j]? = some u → (w1.alloc (.cells #[.int .i64 i, .string s] 107)).cell? ((⟨w1.heap.size, 0, none⟩ : Addr).add j) = some u := World.news_of_block (cs := #[.int .i64 i, .string s]) (heap_alloc_last _ _)
          have HNEWS := Lib.hid hnews
          clear hnews
          go_wp2_with (at_builtin; refine wpList_append_lies _ rfl _ _ 77 rfl 0 107 i0 _ 2 24 Tryd.underlying77 hi hz0 hz1 hz2 rfl (by decide) wv R.W.length _ rfl (H1.out.w.alloc _) ⟨w1.heap.size, 0, none⟩ 1 1 [.int .i64 i, .string s] rfl rfl HNEWS.out (by simp [Value.oneCell']) (by decide) (by unfold maxLen; omega) (by omega) (Nat.zero_le _) _ rfl ?_; intro g cp w' hown hgrow hat hlt; have hmg := grown_mod hgrow; have q1 := KC.out w' hmg; have q2 := KF.out w' hmg; have HDN := Lib.hid (RDid.after H.out HM.out (H1.out.pushed hW (by have := HN.out; exact ⟨h0', by rw [show R.burnt.2.S.length = n from HN.out.symm]; exact h1'⟩) hmg hown (by rcases hat with e | e; exact .inl e; exact .inr (by simp at e; omega)))); clear hown hgrow hat hlt hmg)
          go_ret
          exact ⟨rfl, HDN.out⟩
      · rw [if_pos (.inr (.inr h2))]
        have h2i : (s.size : Int) ≠ 64 := by omega
        go_enter Tryd.func49, Tryd.ntmps49
        go_wp2
        go_ret
        exact ⟨rfl, RDid.same H.out⟩
end Go.Proofs.YteljihpheffjnaaDoor.Drum
/- The document's drum: New. -/
namespace Go.Proofs.YteljihpheffjnaaDoor.Drum
open Go.RowKit Go.Proofs.YteljihpheffjnaaDoor.Ord Go.Proofs.YteljihpheffjnaaDoorW.PrintWords Go.Proofs.YteljihpheffjnaaDoor.Base
set_option linter.unusedVariables false
set_option linter.unusedSimpArgs false
attribute [local go_sem] rdl_const rdl_func rdl_global rdl_nil rdl_cons

/-- A slice of one new element, in a block of its own. -/
def newsG (lv : Value) (E : TypeId) (xs : List Value) : Fact (Mod (fun k => lv.ownBlock = some k)) :=
  ⟨fun v W => ∃ x, v = .slice (some ⟨x, 0, none⟩) 1 1 ∧ W.heap[x]? = some (.cells xs.toArray E (0, 0)) ∧ lv.ownBlock ≠ some x,
   fun v W W' ⟨x, hv, hx, hn⟩ hm => ⟨x, hv, (hm.block x (Array.getElem?_eq_some_iff.1 hx).1 hn).trans hx, hn⟩⟩
/-- A slice, one element longer. -/
def AppendedG (E : TypeId) (s : Nat) (w3 : World) (lv : Value) (n : Nat) (xs : List Value) (v : Value) (W : World) : Prop :=
  ∃ h cap, v = .slice (some ⟨h, 0, none⟩) (n + 1) cap ∧ W.ownsRow 0 E s v (n + 1) xs ∧ (lv.ownBlock = some h ∨ w3.heap.size ≤ h)
theorem append_one {t E : TypeId} {z : Value} {size bytes : Nat} (ht : Tryd.prog.underlying t = some (.slice E)) (hi : (Tryd.prog.info? E).map (fun i => (i.zero, i.size, i.bytes)) = some (some z, size, bytes)) (hz : z.cells.size = size) (hs : 0 < size) (hb : bytes ≤ 1000)
    {lv : Value} {n : Nat} {xs news : List Value} (hn : n ≤ 1000000) (hl : news.length = size) (h1 : ∀ u ∈ news, u.oneCell' = true) {w3 W : World} {v6 : Value}
    (hS : Mod (fun k => lv.ownBlock = some k) w3 W) (hA : W.ownsRow 0 E size lv n xs) (h6 : (newsG lv E news).p v6 W) (ty : TypeId) :
    ∃ v W', (Builtin.append_ #[t, t] ty #[lv, v6]).run Tryd.prog W = .ok v W' ∧ Mod (fun k => lv.ownBlock = some k) W W' ∧ AppendedG E size w3 lv n (xs ++ news) v W' := by
  obtain ⟨x, rfl, hx, hne⟩ := h6
  obtain ⟨i0, hi0, hz0, hz1, hz2⟩ := info_parts hi
  have hbn : (n + 1) * bytes ≤ 1000001 * 1000 := Nat.mul_le_mul (by omega) hb
  obtain ⟨h, cap, W', hr, hown, hg, hat, _⟩ := run_append_lies (P := Tryd.prog) W t ty 0 E i0 _ size bytes ht hi0 hz0 hz1 hz2 hz hs lv n _ hA ⟨x, 0, none⟩ 1 1 news
    (by omega) (World.news_of_block (cs := news.toArray) hx) h1 (by decide) (by unfold maxLen; omega) (by omega) (Nat.zero_le _) W.heap.size rfl
  refine ⟨_, W', hr, Mod.of_grown hg (fun k hk => hk), h, cap, rfl, hown, ?_⟩
  rcases hat with hat | hat
  · exact .inl hat
  · exact .inr (by rw [hat]; exact hS.size)
/-- Bytes of a row's own, apart from another row. -/
def ownS (lv : Value) (l : List UInt8) : Fact (Mod (fun k => lv.ownBlock = some k)) :=
  ⟨fun v W => OwnB W v l ∧ ∀ k, v.ownBlock = some k → lv.ownBlock ≠ some k, fun v W W' ⟨h, hn⟩ hm => ⟨ownsRow_mod h hm hn, hn⟩⟩
/-- A sector of zeros. -/
def zsec : ByteArray := ⟨(List.replicate 64 (0 : UInt8)).toArray⟩
def RS.zero (n : Nat) : RS := ⟨List.replicate n zsec, [], -1, false⟩
theorem rnew_bad (n : Int) (h : n < 1 ∨ 4096 < n) (w : World) : Calls Tryd.prog 21 #[.int .i64 n] w fun e w' => e = .returned (.tuple #[.pointer none, .int .i64 2]) ∧ w = w' := by
  rcases h with h | h
  · go_enter Tryd.func21, Tryd.ntmps21
    go_wp2
    go_ret2
    exact ⟨rfl, rfl⟩
  · have h2 : ¬ n < 1 := by omega
    go_enter Tryd.func21, Tryd.ntmps21
    go_wp2
    go_ret2
    exact ⟨rfl, rfl⟩
/-- The document's drum, so many of its sectors laid. -/
def Laid (w : World) (b k : Nat) (wr : World) : Prop := ∃ sv, RefAt wr b sv (.slice none 0 0) (RS.zero k) ∧ (∀ j, sv.ownBlock = some j → w.heap.size ≤ j) ∧ NewMem w wr
def RNewAt (n : Nat) (w : World) (e : Ending) (w' : World) : Prop := ∃ b, e = .returned (.tuple #[.pointer (some ⟨b, 0, none⟩), .int .i64 0]) ∧ w.heap.size ≤ b ∧ Laid w b n w'
theorem strCells_snoc (l : List ByteArray) (s : ByteArray) : strCells (l ++ [s]) = strCells l ++ [.string s] := by simp [strCells]
theorem zeros_snoc (k : Nat) : strCells (RS.zero (k + 1)).S = strCells (RS.zero k).S ++ [.string zsec] := by
  unfold RS.zero; simp only [List.replicate_succ']; rw [strCells_snoc]
theorem Laid.more {w wr W : World} {b k : Nat} {sv v : Value} (h : RefAt wr b sv (.slice none 0 0) (RS.zero k)) (hk : k < 4096) (hb : w.heap.size ≤ b) (hsv : ∀ j, sv.ownBlock = some j → w.heap.size ≤ j) (hn : NewMem w wr)
    (hm : Mod (fun k => sv.ownBlock = some k) wr W) (ha : AppendedG 9 1 wr sv k (strCells (RS.zero (k + 1)).S) v W) : Laid w b (k + 1) (W.setCell ⟨b, 0, none⟩ v) := by
  obtain ⟨g, cp, rfl, hown, hat⟩ := ha
  have hgb : g ≠ b := by
    rcases hat with e | e
    · intro x; exact h.neS (by rw [e, x])
    · have := h.cell.lt; omega
  have hc := h.cell.kept hm h.neS
  have hm2 : Mod (fun i => i = b) W (W.setCell ⟨b, 0, none⟩ (.slice (some ⟨g, 0, none⟩) (k + 1) cp)) := Mod.setCell _ _ _ rfl
  refine ⟨.slice (some ⟨g, 0, none⟩) (k + 1) cp, ⟨hc.set0 _, ?_, World.ownsRow_nil _ _ _ _, by simp [RS.zero]; omega, by simp [RS.zero], fun q hq => by cases hq⟩, fun j hj => ?_, ?_⟩
  · have := ownsRow_mod hown hm2 (fun k hk e => hgb (by simp [Value.ownBlock] at hk; omega))
    have e : (RS.zero (k + 1)).S.length = k + 1 := by simp [RS.zero]
    rw [e]; exact this
  · simp [Value.ownBlock] at hj
    subst hj
    rcases hat with e | e
    · exact hsv _ e
    · have := hn.size; omega
  · have h1 : Mod (fun i => sv.ownBlock = some i ∨ i = b) wr W := hm.mono (fun _ e => .inl e)
    have h2 := h1.trans (hm2.mono (fun _ e => Or.inr e) : Mod (fun i => sv.ownBlock = some i ∨ i = b) _ _) (fun _ e => .inl e)
    exact Below.trans hn (h2.below hn.size (fun i e => by rcases e with e | e; exact hsv i e; omega))
set_option maxRecDepth 100000 in
set_option maxHeartbeats 8000000 in
theorem rnew_ok (n : Nat) (h0 : 0 < n) (hn : n ≤ 4096) (w : World) : Calls Tryd.prog 21 #[.int .i64 (n : Int)] w (RNewAt n w) := by
  have hlt : ¬ (n : Int) < 1 := by omega
  have hgt : ¬ (n : Int) > 4096 := by omega
  go_enter Tryd.func21, Tryd.ntmps21
  go_wp2_with fail
  obtain ⟨b, hb⟩ : ∃ b, b = w.heap.size := ⟨_, rfl⟩
  rw [← hb]
  have HB := Lib.hid hb
  clear hb
  go_loopw [5] (fun i wr => ∃ k : Nat, k ≤ n ∧ i = .int .i64 (k : Int) ∧ Laid w b k wr) (fun i _ => n - (intOf i).toNat)
  case atStart =>
    refine ⟨0, Nat.zero_le _, rfl, .slice none 0 0, ⟨?_, World.ownsRow_nil _ _ _ _, World.ownsRow_nil _ _ _ _, by simp [RS.zero], by simp [RS.zero], fun q hq => by cases hq⟩, fun j hj => by simp [Value.ownBlock] at hj, NewMem.alloc _ _⟩
    rw [HB.out]; exact heap_alloc_last _ _
  case round =>
    obtain ⟨k, hk, rfl, hlaid⟩ := hrel
    by_cases hlk : k < n
    · obtain ⟨sv, hr, hsv, hnw⟩ := hlaid
      obtain ⟨as1, cs1, hsvf, _⟩ := ownsRow_slice hr.s
      have hkl : (RS.zero k).S.length = k := by simp [RS.zero]
      rw [hkl] at hsvf
      have HR := Lib.hid hr
      have HSV := Lib.hid hsv
      have HNW := Lib.hid hnw
      have HKL := Lib.hid hkl
      have HSF := Lib.hid hsvf
      clear hr hsv hnw hkl hsvf
      have far : ∀ W, Mod (fun k => sv.ownBlock = some k) wr W → RCell W b sv (.slice none 0 0) (-1) false ∧ (∀ k, sv.ownBlock = some k → k < W.heap.size) := fun W hW =>
        ⟨HR.out.cell.kept hW HR.out.neS, fun k hk => Nat.lt_of_lt_of_le (HR.out.s.lt k hk).2 hW.size⟩
      have FAR := Lib.hid far
      clear far
      have hmk := make_bytes 64 (by omega)
      have HMK := Lib.hid hmk
      clear hmk
      go_wp2_with fail
      refine' wp_region_factsD 8 (S := (fun W => Mod (fun k => sv.ownBlock = some k) wr W)) (A := (fun W => W.ownsRow 0 9 1 sv k (strCells (RS.zero k).S))) (R := (Mod (fun k => sv.ownBlock = some k))) (R0 := NewMem) (pd := (AppendedG 9 1 wr sv k (strCells (RS.zero (k + 1)).S))) [eqF _ _, eqF _ _, eqF _ _, eqF _ _, eqF _ sv, ownS sv (List.replicate 64 0), eqF _ (.string zsec), newsG sv 9 [.string zsec], noF _] (by kernel_rfl) (by kernel_rfl) ?hS ?hA ?hR ?hpd ?h0 (Ord.stepsD_cons ?s0 (Ord.stepsD_cons ?s1 (Ord.stepsD_cons ?s2 (Ord.stepsD_cons ?s3 (Ord.stepsD_cons ?s4 (Ord.stepsD_cons ?s5 (Ord.stepsD_cons ?s6 (Ord.stepsD_cons ?s7 (Ord.stepsD_cons ?s8 (Ord.stepsD_nil)))))))))) ?fin
      case s0 =>
        intro g W hSW _ hd
        refine OpGives.ne (by decide) ?_
        try simp only [Nat.zero_add, Nat.reduceAdd] at hd ⊢
        with_reducible refine OpGives.pre_reads [] 31 ?_ ?_ ?_
        · rfl
        · kernel_rfl
        simp only [List.map_cons, List.map_nil]
        refine OpGives.val (w' := W) ?_ ⟨NewMem.refl _, rfl⟩
        go_simp
        try with_reducible rfl
      case s1 =>
        intro g W hSW _ hd
        refine OpGives.ne (by decide) ?_
        try simp only [Nat.zero_add, Nat.reduceAdd] at hd ⊢
        with_reducible refine OpGives.pre_reads [] 31 ?_ ?_ ?_
        · rfl
        · kernel_rfl
        simp only [List.map_cons, List.map_nil]
        refine OpGives.val (w' := W) ?_ ⟨NewMem.refl _, rfl⟩
        go_simp
        try with_reducible rfl
      case s2 =>
        intro g W hSW _ hd
        refine OpGives.ne (by decide) ?_
        try simp only [Nat.zero_add, Nat.reduceAdd] at hd ⊢
        have h1 : g 1 = _ := hd 1 (by decide) (by kernel_rfl)
        with_reducible refine OpGives.pre_reads [(20, 1)] 31 ?_ ?_ ?_
        · rfl
        · kernel_rfl
        simp only [List.map_cons, List.map_nil]
        refine OpGives.val (w' := W) ?_ ⟨NewMem.refl _, rfl⟩
        go_simp
        try with_reducible rfl
      case s3 =>
        intro g W hSW _ hd
        refine OpGives.ne (by decide) ?_
        try simp only [Nat.zero_add, Nat.reduceAdd] at hd ⊢
        have h2 : g 2 = _ := hd 2 (by decide) (by kernel_rfl)
        with_reducible refine OpGives.pre_reads [(21, 2)] 31 ?_ ?_ ?_
        · rfl
        · kernel_rfl
        simp only [List.map_cons, List.map_nil]
        refine OpGives.val (w' := W) ?_ ⟨NewMem.refl _, rfl⟩
        go_simp
        try with_reducible rfl
      case s4 =>
        intro g W hSW _ hd
        refine OpGives.ne (by decide) ?_
        try simp only [Nat.zero_add, Nat.reduceAdd] at hd ⊢
        have h3 : g 3 = _ := hd 3 (by decide) (by kernel_rfl)
        with_reducible refine OpGives.pre_reads [(22, 3)] 31 ?_ ?_ ?_
        · rfl
        · kernel_rfl
        simp only [List.map_cons, List.map_nil]
        have c1 := (FAR.out W hSW).1.cells.1; refine OpGives.val (w' := W) ?_ ⟨NewMem.refl _, rfl⟩; go_simp
      case s5 =>
        intro g W hSW _ hd
        refine OpGives.ne (by decide) ?_
        try simp only [Nat.zero_add, Nat.reduceAdd] at hd ⊢
        with_reducible refine OpGives.pre_reads [] 31 ?_ ?_ ?_
        · rfl
        · kernel_rfl
        simp only [List.map_cons, List.map_nil]
        obtain ⟨w', hr, hown, hnew⟩ := HMK.out W; refine OpGives.val (v := .slice (some ⟨W.heap.size, 0, none⟩) 64 64) (w' := w') ?_ ⟨hnew, hown, fun k hk e => absurd ((FAR.out W hSW).2 k e) (by simp [Value.ownBlock] at hk; omega)⟩; (have hr' : (Instr.makeSlice 80 (.int .i64 64) (.int .i64 64)).run Tryd.prog W = _ := hr); go_simp
      case s6 =>
        intro g W hSW _ hd
        refine OpGives.ne (by decide) ?_
        try simp only [Nat.zero_add, Nat.reduceAdd] at hd ⊢
        have h5 := hd 5 (by decide) (by kernel_rfl)
        change (ownS sv (List.replicate 64 0)).p (g 5) W at h5
        with_reducible refine OpGives.pre_reads [(24, 5)] 31 ?_ ?_ ?_
        · rfl
        · kernel_rfl
        simp only [List.map_cons, List.map_nil]
        have hc := OwnB.string h5.1; (rw [show (⟨(List.replicate 64 (0 : UInt8)).toArray⟩ : ByteArray) = zsec from rfl] at hc); refine OpGives.val (v := .string zsec) (w' := W) ?_ ⟨NewMem.refl _, rfl⟩; go_simp
      case s7 =>
        intro g W hSW _ hd
        refine OpGives.ne (by decide) ?_
        try simp only [Nat.zero_add, Nat.reduceAdd] at hd ⊢
        have h6 : g 6 = _ := hd 6 (by decide) (by kernel_rfl)
        with_reducible refine OpGives.pre_reads [(25, 6)] 31 ?_ ?_ ?_
        · rfl
        · kernel_rfl
        simp only [List.map_cons, List.map_nil]
        refine OpGives.val (v := .slice (some ⟨W.heap.size, 0, none⟩) 1 1) (w' := W.alloc (.cells #[.string zsec] 9)) ?_ ⟨NewMem.alloc _ _, W.heap.size, rfl, heap_alloc_last W _, fun e => absurd ((FAR.out W hSW).2 _ e) (by omega)⟩; go_simp
      case s8 =>
        intro g W hSW hAW hd
        refine OpGives.eqd ?_
        have hAW := hAW rfl
        try simp only [Nat.zero_add, Nat.reduceAdd] at hd ⊢
        have h4 : g 4 = _ := hd 4 (by decide) (by kernel_rfl)
        have h7 := hd 7 (by decide) (by kernel_rfl)
        change (newsG sv 9 [.string zsec]).p (g 7) W at h7
        with_reducible refine OpGives.pre_reads [(23, 4), (26, 7)] 31 ?_ ?_ ?_
        · rfl
        · kernel_rfl
        simp only [List.map_cons, List.map_nil]
        obtain ⟨v, W', hr, hR, hp⟩ := append_one Tryd.underlying28 info_str rfl (by decide) (by decide) (by omega) rfl (by simp [Value.oneCell']) hSW hAW h7 28; rw [← h4] at hr; rw [← zeros_snoc] at hp; exact OpGives.val (v := v) (w' := W') (exec_append _ _ _ rfl hr) ⟨hR, trivial, hp⟩
      case hS => exact fun a c h k => Mod.trans h k (fun _ e => .inl e)
      case hA => exact fun a c h k => ownsRow_mod h (Mod.of_below (F := fun _ => False) k) (fun _ _ => id)
      case hR => exact fun a c h => Mod.of_below h
      case hpd => exact fun v a c ⟨x, cp, e, ho, hx⟩ k => ⟨x, cp, e, ownsRow_mod ho (Mod.of_below (F := fun _ => False) k) (fun _ _ => id), hx⟩
      case h0 => exact ⟨Mod.drew (Mod.refl _ _), by have := HR.out.s; rw [HKL.out] at this; exact ownsRow_mod this (Mod.drew (Mod.refl (fun _ => False) _)) (fun _ _ => id)⟩
      case fin =>
        intro v W hSW hf hpd
        have h0 : v 0 = _ := hf 0 (Nat.lt_of_lt_of_eq (by decide : 0 < 9) rfl)
        have h8 := hpd (Nat.lt_of_lt_of_eq (by decide : 8 < 9) rfl)
        clear hf hpd
        generalize hF : Ord.pre _ _ v _ = F
        rw [Ord.pre_lit [some 19, some 20, some 21, some 22, some 23, some 24, some 25, some 26, some 27]
          (by kernel_rfl)] at hF
        simp only [Ord.puts, Nat.zero_add, Nat.reduceAdd] at hF
        subst hF
        rw [h0]
        obtain ⟨x7, c7, e7, h7'⟩ := h8
        have h8 : AppendedG 9 1 wr sv k (strCells (RS.zero (k + 1)).S) (v 8) W := ⟨x7, c7, e7, h7'⟩
        have hdone := Laid.more HR.out (by omega) (by have := HB.out; omega) HSV.out HNW.out hSW h8
        have HD := Lib.hid hdone
        rw [e7] at HD ⊢
        have c1 := (FAR.out W hSW).1.cells.1
        have f1 := (FAR.out W hSW).1.free 0
        clear hdone h8 h7' e7
        refine any_one (i := 9) (by kernel_rfl) ?_
        refine wpOp_value (v := .pointer (some ⟨b, 0, none⟩)) (w' := W) rfl rfl (by go_simp) ?_
        refine any_one (i := 10) (by kernel_rfl) ?_
        refine wpOp_value (v := .pointer (some ⟨b, 0, none⟩)) (w' := W) rfl rfl (by go_simp) ?_
        refine any_one (i := 11) (by kernel_rfl) ?_
        refine wpOp_skip (w' := W.setCell ⟨b, 0, none⟩ (.slice (some ⟨x7, 0, none⟩) (k + 1) c7)) rfl rfl (by go_simp) ?_
        refine wpAny_done (by kernel_rfl) ?_ _
        simp only [List.getElem_toArray, List.getElem_cons_succ, List.getElem_cons_zero]
        go_frame
        clear c1 f1
        generalize W.setCell ⟨b, 0, none⟩ (.slice (some ⟨x7, 0, none⟩) (k + 1) c7) = W2 at *
        go_wp2_with fail
        go_roundw
        case rel => exact ⟨k + 1, by omega, by go_num, HD.out⟩
        case measure => simp [intOf]; omega
    · obtain rfl : k = n := by omega
      have HL := Lib.hid hlaid
      clear hlaid
      go_wp2_with fail
      go_ret2
      exact ⟨b, rfl, by have := HB.out; omega, HL.out⟩
end Go.Proofs.YteljihpheffjnaaDoor.Drum
/- The document's drum: Settle, Crash. -/
namespace Go.Proofs.YteljihpheffjnaaDoor.Drum
open Go.RowKit Go.Proofs.YteljihpheffjnaaDoor.Ord Go.Proofs.YteljihpheffjnaaDoorW.PrintWords Go.Proofs.YteljihpheffjnaaDoor.Base
set_option linter.unusedVariables false
set_option linter.unusedSimpArgs false
attribute [local go_sem] rdl_const rdl_func rdl_global rdl_nil rdl_cons

/-- What stays of the first k loose writes. -/
def rkeepN (p : Nat → Bool) (l : List (Int × ByteArray)) (s : List ByteArray) : Nat → List ByteArray
  | 0 => s
  | k + 1 => match l[k]? with
    | some q => if p k then (rkeepN p l s k).set q.1.toNat q.2 else rkeepN p l s k
    | none => rkeepN p l s k
theorem rkeepN_len (p : Nat → Bool) (l : List (Int × ByteArray)) (s : List ByteArray) : ∀ k, (rkeepN p l s k).length = s.length
  | 0 => rfl
  | k + 1 => by
    unfold rkeepN
    split
    · split
      · rw [List.length_set, rkeepN_len p l s k]
      · exact rkeepN_len p l s k
    · exact rkeepN_len p l s k
def RS.kept (R : RS) (p : Nat → Bool) (k : Nat) : RS := { R with S := rkeepN p R.W R.S k }
theorem RS.kept_len (R : RS) (p : Nat → Bool) (k : Nat) : (R.kept p k).S.length = R.S.length := rkeepN_len _ _ _ _
theorem RS.kept_no {R : RS} {p : Nat → Bool} {k : Nat} {q : Int × ByteArray} (hq : R.W[k]? = some q) (hp : p k = false) : R.kept p (k + 1) = R.kept p k := by
  have : rkeepN p R.W R.S (k + 1) = rkeepN p R.W R.S k := by rw [rkeepN, hq]; simp [hp]
  unfold RS.kept; rw [this]
theorem RS.kept_yes {R : RS} {p : Nat → Bool} {k : Nat} {q : Int × ByteArray} (hq : R.W[k]? = some q) (hp : p k = true) : R.kept p (k + 1) = { (R.kept p k) with S := (R.kept p k).S.set q.1.toNat q.2 } := by
  have : rkeepN p R.W R.S (k + 1) = (rkeepN p R.W R.S k).set q.1.toNat q.2 := by rw [rkeepN, hq]; simp [hp]
  unfold RS.kept; rw [this]
/-- A sector's text turned. -/
theorem RefAt.store {w : World} {b g n cap : Nat} {wv : Value} {R : RS} (h : RefAt w b (.slice (some ⟨g, 0, none⟩) n cap) wv R) {j : Nat} (hj : j < R.S.length) (s : ByteArray) :
    RefAt (w.setCell ⟨g, j, none⟩ (.string s)) b (.slice (some ⟨g, 0, none⟩) n cap) wv { R with S := R.S.set j s } := by
  have hm : Mod (fun i => i = g) w (w.setCell ⟨g, j, none⟩ (.string s)) := Mod.setCell _ _ _ rfl
  refine ⟨h.cell.kept hm (fun e => h.neS (by rw [e]; rfl)), ?_, ownsRow_mod h.w hm (fun k hk e => ownsRow_apart h.s h.w (by decide) g rfl (by rw [hk, e])), by rw [List.length_set]; exact h.few, h.fewW, fun q hq => by rw [List.length_set]; exact h.at' q hq⟩
  rcases h.s.2 with ⟨e, _⟩ | ⟨g', cp', cur, e, hb, hg, hc, hmx, hsz, ht⟩
  · cases e
  · injection e with e1 e2 e3
    injection e1 with e1
    injection e1 with e1
    subst e1; subst e2; subst e3
    refine ⟨by simp [strCells], .inr ⟨g, cap, _, by rw [List.length_set], hb, heap_setCell_same _ _ _ _ _ _ hg, by rw [List.length_set]; exact hc, hmx, by simpa using hsz, ?_⟩⟩
    rw [List.length_set, Nat.mul_one]
    rw [Nat.mul_one] at ht
    unfold strCells at ht ⊢
    rw [List.map_set, ← ht]
    simp [List.take_set]
theorem RefAt.emptied {w : World} {b : Nat} {sv wv : Value} {R : RS} (h : RefAt w b sv wv R) : RefAt (w.setCell ⟨b, 1, none⟩ (.slice none 0 0)) b sv (.slice none 0 0) { R with W := [] } := by
  have hm : Mod (fun k => k = b) w (w.setCell ⟨b, 1, none⟩ (.slice none 0 0)) := Mod.setCell _ _ _ rfl
  exact ⟨h.cell.set1 _, ownsRow_mod h.s hm (fun k hk e => h.neS (by rw [hk, e])), World.ownsRow_nil _ _ _ _, h.few, by simp, fun q hq => by cases hq⟩
def RS.settle (R : RS) : Int × RS := if R.burnt.1 then (9, R.burnt.2) else (0, { (R.burnt.2.kept (fun _ => true) R.W.length) with W := [] })
/-- The document's drum while k loose writes have been looked at. -/
def RKept (w : World) (b : Nat) (sv wv : Value) (R : RS) (p : Nat → Bool) (k : Nat) (wr : World) : Prop := RefAt wr b sv wv (R.kept p k) ∧ Mod (fun i => sv.ownBlock = some i) w wr
set_option maxRecDepth 100000 in
set_option maxHeartbeats 8000000 in
theorem rsettle_at (b : Nat) (sv wv : Value) (R : RS) (w : World) (h : RefAt w b sv wv R) (hf : R.fuse ≤ 9223372036854775807) :
    Calls Tryd.prog 64 #[.pointer (some ⟨b, 0, none⟩)] w fun e w' => e = .returned (.int .i64 R.settle.1) ∧ RDid w b sv wv R.settle.2 w' := by
  have cb := burnt_at b sv wv R w h hf
  have CB := Lib.hid cb
  have H := Lib.hid h
  unfold RS.settle
  clear h cb
  cases hb : R.burnt.1 with
  | true =>
    rw [if_pos rfl]
    have HB := Lib.hid hb
    clear hb
    go_enter Tryd.func64, Tryd.ntmps64
    go_wp2_with fail
    refine CB.out.mono ?_
    rintro e w1 ⟨rfl, h1r, hm1⟩
    rw [HB.out]
    have HD := Lib.hid (RDid.after H.out hm1 (RDid.same h1r))
    clear h1r hm1
    go_wp2
    go_ret
    exact ⟨rfl, HD.out⟩
  | false =>
    rw [if_neg (by simp)]
    have HB := Lib.hid hb
    clear hb
    obtain ⟨R1, hR1⟩ : ∃ R1, R1 = R.burnt.2 := ⟨_, rfl⟩
    have hw1 : R1.W = R.W := by rw [hR1]; rfl
    rw [← hR1, show R.W.length = R1.W.length by rw [hw1]]
    have HR1 := Lib.hid hR1
    clear hw1 hR1
    go_enter Tryd.func64, Tryd.ntmps64
    go_wp2_with fail
    refine CB.out.mono ?_
    rintro e w1 ⟨rfl, h1r, hm1⟩
    rw [HB.out]
    rw [← HR1.out] at h1r
    obtain ⟨a, cap, hsv, ha⟩ := ownsRow_slice h1r.s
    obtain ⟨a', cap', hwv, ha'⟩ := ownsRow_slice h1r.w
    obtain ⟨n, hn⟩ : ∃ n, n = R1.S.length := ⟨_, rfl⟩
    obtain ⟨m, hm⟩ : ∃ m, m = R1.W.length := ⟨_, rfl⟩
    have hfw := h1r.fewW
    have H1 := Lib.hid h1r
    have HM1 := Lib.hid hm1
    rw [← hn] at hsv ha
    rw [← hm] at hwv ha' hfw
    have HN := Lib.hid hn
    have HM := Lib.hid hm
    have HSV := Lib.hid hsv
    have HWV := Lib.hid hwv
    have HA := Lib.hid ha
    have HA' := Lib.hid ha'
    clear h1r hm1 hn hm hsv hwv ha ha'
    go_wp2_with fail
    go_loopw [3] (fun i wr => ∃ k : Nat, k ≤ m ∧ i = .int .i64 (k : Int) ∧ RKept w1 b sv wv R1 (fun _ => true) k wr) (fun i _ => m - (intOf i).toNat)
    case atStart => exact ⟨0, Nat.zero_le _, rfl, H1.out, Mod.refl _ _⟩
    case round =>
      obtain ⟨k, hk, rfl, hkept⟩ := hrel
      obtain ⟨c0, c1, _, _⟩ := hkept.1.cell.cells
      rw [HSV.out] at c0
      rw [HWV.out] at c1
      have HKE := Lib.hid hkept
      clear hkept
      by_cases hlt : k < m
      · obtain ⟨g', rfl⟩ := HA'.out (by omega)
        obtain ⟨⟨qi, qs⟩, hq⟩ : ∃ q, R1.W[k]? = some q := ⟨_, List.getElem?_eq_getElem (by have := HM.out; omega)⟩
        obtain ⟨cq1, cq2⟩ := HKE.out.1.put HWV.out (k := k) (q := (qi, qs)) hq
        obtain ⟨hq0, hq1⟩ := H1.out.at' _ (List.mem_of_getElem? hq)
        simp only at cq1 cq2 hq0 hq1
        rw [← HN.out] at hq1
        obtain ⟨j, rfl⟩ : ∃ j : Nat, qi = (j : Int) := ⟨qi.toNat, by omega⟩
        have hj : j < n := by omega
        obtain ⟨g, rfl⟩ := HA.out (by omega)
        have hke := HKE.out.1
        rw [HSV.out] at hke
        have hjs : j < (R1.kept (fun _ => true) k).S.length := by rw [RS.kept_len]; have := HN.out; omega
        have cold : ∃ old, wr.cell? ⟨g, j, none⟩ = some (.string old) := ⟨_, hke.str rfl (List.getElem?_eq_getElem hjs)⟩
        obtain ⟨old, cold⟩ := cold
        have fold := ownsRow_free (by have := hke.s; rw [RS.kept_len, ← HN.out] at this; exact this) j
        have hst := hke.store hjs qs
        have hye : R1.kept (fun _ => true) (k + 1) = { (R1.kept (fun _ => true) k) with S := (R1.kept (fun _ => true) k).S.set j qs } := RS.kept_yes hq rfl
        rw [← hye] at hst
        have hmm : Mod (fun i => sv.ownBlock = some i) w1 (wr.setCell ⟨g, j, none⟩ (.string qs)) := HKE.out.2.trans (Mod.setCell (F := fun i => i = g) _ _ _ rfl) (fun i e => .inl (by rw [HSV.out, e]; rfl))
        have HST := Lib.hid hst
        have HMM := Lib.hid hmm
        clear hke hjs hst hye hmm hq hq0 hq1
        go_wp2_with fail
        refine' wp_region_factsT (S := (fun W => W = wr.drew)) (R := (fun a b => a = b)) [eqF _ _, eqF _ _, eqF _ _, eqF _ (.slice (some ⟨g, 0, none⟩) n cap), eqF _ _, eqF _ _, eqF _ _, eqF _ (.slice (some ⟨g', 0, none⟩) m cap'), eqF _ _, eqF _ _, eqF _ _, eqF _ (.int .i64 (j : Int)), eqF _ _, eqF _ _, eqF _ _, eqF _ (.slice (some ⟨g', 0, none⟩) m cap'), eqF _ _, eqF _ _, eqF _ _, eqF _ (.string qs), eqF _ (.pointer (some ⟨g, j, none⟩))] (by kernel_rfl) (by kernel_rfl) ?hS ?h0 (Ord.steps_cons ?s0 (Ord.steps_cons ?s1 (Ord.steps_cons ?s2 (Ord.steps_cons ?s3 (Ord.steps_cons ?s4 (Ord.steps_cons ?s5 (Ord.steps_cons ?s6 (Ord.steps_cons ?s7 (Ord.steps_cons ?s8 (Ord.steps_cons ?s9 (Ord.steps_cons ?s10 (Ord.steps_cons ?s11 (Ord.steps_cons ?s12 (Ord.steps_cons ?s13 (Ord.steps_cons ?s14 (Ord.steps_cons ?s15 (Ord.steps_cons ?s16 (Ord.steps_cons ?s17 (Ord.steps_cons ?s18 (Ord.steps_cons ?s19 (Ord.steps_cons ?s20 (Ord.steps_nil)))))))))))))))))))))) ?fin
        case s0 =>
          intro g W hSW hd
          try simp only [Nat.zero_add, Nat.reduceAdd] at hd ⊢
          with_reducible refine OpGives.pre_reads [] 39 ?_ ?_ ?_
          · rfl
          · kernel_rfl
          simp only [List.map_cons, List.map_nil]
          refine OpGives.val (w' := W) ?_ ⟨rfl, rfl⟩
          go_simp
          try with_reducible rfl
        case s1 =>
          intro g W hSW hd
          try simp only [Nat.zero_add, Nat.reduceAdd] at hd ⊢
          have h0 : g 0 = _ := hd 0 (by decide) (by kernel_rfl)
          with_reducible refine OpGives.pre_reads [(15, 0)] 39 ?_ ?_ ?_
          · rfl
          · kernel_rfl
          simp only [List.map_cons, List.map_nil]
          refine OpGives.val (w' := W) ?_ ⟨rfl, rfl⟩
          go_simp
          try with_reducible rfl
        case s2 =>
          intro g W hSW hd
          try simp only [Nat.zero_add, Nat.reduceAdd] at hd ⊢
          have h1 : g 1 = _ := hd 1 (by decide) (by kernel_rfl)
          with_reducible refine OpGives.pre_reads [(16, 1)] 39 ?_ ?_ ?_
          · rfl
          · kernel_rfl
          simp only [List.map_cons, List.map_nil]
          refine OpGives.val (w' := W) ?_ ⟨rfl, rfl⟩
          go_simp
          try with_reducible rfl
        case s3 =>
          intro g W hSW hd
          try simp only [Nat.zero_add, Nat.reduceAdd] at hd ⊢
          have h2 : g 2 = _ := hd 2 (by decide) (by kernel_rfl)
          with_reducible refine OpGives.pre_reads [(17, 2)] 39 ?_ ?_ ?_
          · rfl
          · kernel_rfl
          simp only [List.map_cons, List.map_nil]
          subst hSW; refine OpGives.val (w' := wr.drew) ?_ ⟨rfl, rfl⟩; go_simp
        case s4 =>
          intro g W hSW hd
          try simp only [Nat.zero_add, Nat.reduceAdd] at hd ⊢
          with_reducible refine OpGives.pre_reads [] 39 ?_ ?_ ?_
          · rfl
          · kernel_rfl
          simp only [List.map_cons, List.map_nil]
          refine OpGives.val (w' := W) ?_ ⟨rfl, rfl⟩
          go_simp
          try with_reducible rfl
        case s5 =>
          intro g W hSW hd
          try simp only [Nat.zero_add, Nat.reduceAdd] at hd ⊢
          have h4 : g 4 = _ := hd 4 (by decide) (by kernel_rfl)
          with_reducible refine OpGives.pre_reads [(19, 4)] 39 ?_ ?_ ?_
          · rfl
          · kernel_rfl
          simp only [List.map_cons, List.map_nil]
          refine OpGives.val (w' := W) ?_ ⟨rfl, rfl⟩
          go_simp
          try with_reducible rfl
        case s6 =>
          intro g W hSW hd
          try simp only [Nat.zero_add, Nat.reduceAdd] at hd ⊢
          have h5 : g 5 = _ := hd 5 (by decide) (by kernel_rfl)
          with_reducible refine OpGives.pre_reads [(20, 5)] 39 ?_ ?_ ?_
          · rfl
          · kernel_rfl
          simp only [List.map_cons, List.map_nil]
          refine OpGives.val (w' := W) ?_ ⟨rfl, rfl⟩
          go_simp
          try with_reducible rfl
        case s7 =>
          intro g W hSW hd
          try simp only [Nat.zero_add, Nat.reduceAdd] at hd ⊢
          have h6 : g 6 = _ := hd 6 (by decide) (by kernel_rfl)
          with_reducible refine OpGives.pre_reads [(21, 6)] 39 ?_ ?_ ?_
          · rfl
          · kernel_rfl
          simp only [List.map_cons, List.map_nil]
          subst hSW; refine OpGives.val (w' := wr.drew) ?_ ⟨rfl, rfl⟩; go_simp
        case s8 =>
          intro g W hSW hd
          try simp only [Nat.zero_add, Nat.reduceAdd] at hd ⊢
          with_reducible refine OpGives.pre_reads [] 39 ?_ ?_ ?_
          · rfl
          · kernel_rfl
          simp only [List.map_cons, List.map_nil]
          refine OpGives.val (w' := W) ?_ ⟨rfl, rfl⟩
          go_simp
          try with_reducible rfl
        case s9 =>
          intro g W hSW hd
          try simp only [Nat.zero_add, Nat.reduceAdd] at hd ⊢
          have h7 : g 7 = _ := hd 7 (by decide) (by kernel_rfl)
          have h8 : g 8 = _ := hd 8 (by decide) (by kernel_rfl)
          with_reducible refine OpGives.pre_reads [(22, 7), (23, 8)] 39 ?_ ?_ ?_
          · rfl
          · kernel_rfl
          simp only [List.map_cons, List.map_nil]
          refine OpGives.val (w' := W) ?_ ⟨rfl, rfl⟩
          go_simp
          try with_reducible rfl
        case s10 =>
          intro g W hSW hd
          try simp only [Nat.zero_add, Nat.reduceAdd] at hd ⊢
          have h9 : g 9 = _ := hd 9 (by decide) (by kernel_rfl)
          with_reducible refine OpGives.pre_reads [(24, 9)] 39 ?_ ?_ ?_
          · rfl
          · kernel_rfl
          simp only [List.map_cons, List.map_nil]
          refine OpGives.val (w' := W) ?_ ⟨rfl, rfl⟩
          go_simp
          try with_reducible rfl
        case s11 =>
          intro g W hSW hd
          try simp only [Nat.zero_add, Nat.reduceAdd] at hd ⊢
          have h10 : g 10 = _ := hd 10 (by decide) (by kernel_rfl)
          with_reducible refine OpGives.pre_reads [(25, 10)] 39 ?_ ?_ ?_
          · rfl
          · kernel_rfl
          simp only [List.map_cons, List.map_nil]
          subst hSW; refine OpGives.val (w' := wr.drew) ?_ ⟨rfl, rfl⟩; go_simp
        case s12 =>
          intro g W hSW hd
          try simp only [Nat.zero_add, Nat.reduceAdd] at hd ⊢
          with_reducible refine OpGives.pre_reads [] 39 ?_ ?_ ?_
          · rfl
          · kernel_rfl
          simp only [List.map_cons, List.map_nil]
          refine OpGives.val (w' := W) ?_ ⟨rfl, rfl⟩
          go_simp
          try with_reducible rfl
        case s13 =>
          intro g W hSW hd
          try simp only [Nat.zero_add, Nat.reduceAdd] at hd ⊢
          have h12 : g 12 = _ := hd 12 (by decide) (by kernel_rfl)
          with_reducible refine OpGives.pre_reads [(27, 12)] 39 ?_ ?_ ?_
          · rfl
          · kernel_rfl
          simp only [List.map_cons, List.map_nil]
          refine OpGives.val (w' := W) ?_ ⟨rfl, rfl⟩
          go_simp
          try with_reducible rfl
        case s14 =>
          intro g W hSW hd
          try simp only [Nat.zero_add, Nat.reduceAdd] at hd ⊢
          have h13 : g 13 = _ := hd 13 (by decide) (by kernel_rfl)
          with_reducible refine OpGives.pre_reads [(28, 13)] 39 ?_ ?_ ?_
          · rfl
          · kernel_rfl
          simp only [List.map_cons, List.map_nil]
          refine OpGives.val (w' := W) ?_ ⟨rfl, rfl⟩
          go_simp
          try with_reducible rfl
        case s15 =>
          intro g W hSW hd
          try simp only [Nat.zero_add, Nat.reduceAdd] at hd ⊢
          have h14 : g 14 = _ := hd 14 (by decide) (by kernel_rfl)
          with_reducible refine OpGives.pre_reads [(29, 14)] 39 ?_ ?_ ?_
          · rfl
          · kernel_rfl
          simp only [List.map_cons, List.map_nil]
          subst hSW; refine OpGives.val (w' := wr.drew) ?_ ⟨rfl, rfl⟩; go_simp
        case s16 =>
          intro g W hSW hd
          try simp only [Nat.zero_add, Nat.reduceAdd] at hd ⊢
          with_reducible refine OpGives.pre_reads [] 39 ?_ ?_ ?_
          · rfl
          · kernel_rfl
          simp only [List.map_cons, List.map_nil]
          refine OpGives.val (w' := W) ?_ ⟨rfl, rfl⟩
          go_simp
          try with_reducible rfl
        case s17 =>
          intro g W hSW hd
          try simp only [Nat.zero_add, Nat.reduceAdd] at hd ⊢
          have h15 : g 15 = _ := hd 15 (by decide) (by kernel_rfl)
          have h16 : g 16 = _ := hd 16 (by decide) (by kernel_rfl)
          with_reducible refine OpGives.pre_reads [(30, 15), (31, 16)] 39 ?_ ?_ ?_
          · rfl
          · kernel_rfl
          simp only [List.map_cons, List.map_nil]
          refine OpGives.val (w' := W) ?_ ⟨rfl, rfl⟩
          go_simp
          try with_reducible rfl
        case s18 =>
          intro g W hSW hd
          try simp only [Nat.zero_add, Nat.reduceAdd] at hd ⊢
          have h17 : g 17 = _ := hd 17 (by decide) (by kernel_rfl)
          with_reducible refine OpGives.pre_reads [(32, 17)] 39 ?_ ?_ ?_
          · rfl
          · kernel_rfl
          simp only [List.map_cons, List.map_nil]
          refine OpGives.val (w' := W) ?_ ⟨rfl, rfl⟩
          go_simp
          try with_reducible rfl
        case s19 =>
          intro g W hSW hd
          try simp only [Nat.zero_add, Nat.reduceAdd] at hd ⊢
          have h18 : g 18 = _ := hd 18 (by decide) (by kernel_rfl)
          with_reducible refine OpGives.pre_reads [(33, 18)] 39 ?_ ?_ ?_
          · rfl
          · kernel_rfl
          simp only [List.map_cons, List.map_nil]
          subst hSW; refine OpGives.val (w' := wr.drew) ?_ ⟨rfl, rfl⟩; go_simp
        case s20 =>
          intro g W hSW hd
          try simp only [Nat.zero_add, Nat.reduceAdd] at hd ⊢
          have h3 : g 3 = _ := hd 3 (by decide) (by kernel_rfl)
          have h11 : g 11 = _ := hd 11 (by decide) (by kernel_rfl)
          with_reducible refine OpGives.pre_reads [(18, 3), (26, 11)] 39 ?_ ?_ ?_
          · rfl
          · kernel_rfl
          simp only [List.map_cons, List.map_nil]
          subst hSW; refine OpGives.val (w' := wr.drew) ?_ ⟨rfl, rfl⟩; go_simp
        case hS => rintro a c h rfl; exact h
        case h0 => rfl
        case fin =>
          intro v W hSW hf
          subst hSW
          have h19 : v 19 = _ := hf 19 (Nat.lt_of_lt_of_eq (by decide : 19 < 21) rfl)
          have h20 : v 20 = _ := hf 20 (Nat.lt_of_lt_of_eq (by decide : 20 < 21) rfl)
          clear hf
          generalize hF : Ord.pre _ _ v _ = F
          rw [Ord.pre_lit [some 15, some 16, some 17, some 18, some 19, some 20, some 21, some 22, some 23, some 24, some 25, some 26, some 27, some 28, some 29, some 30, some 31, some 32, some 33, some 34, some 35]
            (by kernel_rfl)] at hF
          simp only [Ord.puts, Nat.zero_add, Nat.reduceAdd] at hF
          subst hF
          rw [h19, h20]
          clear h19 h20
          refine any_one (i := 21) (by kernel_rfl) ?_
          refine wpOp_skip (w' := wr.drew.setCell ⟨g, j, none⟩ (.string qs)) rfl rfl (by go_simp) ?_
          refine wpAny_done (by kernel_rfl) ?_ _
          simp only [List.getElem_toArray, List.getElem_cons_succ, List.getElem_cons_zero]
          go_frame
          have hkd : RKept w1 b sv wv R1 (fun _ => true) (k + 1) (wr.drew.setCell ⟨g, j, none⟩ (.string qs)) := by
            have e : wr.drew.setCell ⟨g, j, none⟩ (.string qs) = (wr.setCell ⟨g, j, none⟩ (.string qs)).drew := rfl
            rw [e]
            unfold RKept
            rw [HSV.out]
            exact ⟨HST.out.kept (Mod.drew (Mod.refl (fun _ => False) _)) (fun _ _ => id), by have := HMM.out; rw [HSV.out] at this; exact this.drew⟩
          have HKD := Lib.hid hkd
          clear hkd cold fold c0 c1 cq1 cq2
          generalize wr.drew.setCell ⟨g, j, none⟩ (.string qs) = wy at *
          go_wp2_with fail
          go_roundw
          case rel => exact ⟨k + 1, by omega, by go_num, HKD.out⟩
          case measure => simp [intOf]; omega
      · obtain rfl : k = m := by omega
        have f1 := HKE.out.1.cell.free 1
        have hem := HKE.out.1.emptied
        have hmb : Mod (fun i => i = b) wr (wr.setCell ⟨b, 1, none⟩ (.slice none 0 0)) := Mod.setCell _ _ _ rfl
        have hd : RDid w1 b sv wv { (R1.kept (fun _ => true) k) with W := [] } (wr.setCell ⟨b, 1, none⟩ (.slice none 0 0)) :=
          ⟨sv, .slice none 0 0, hem, fun k hk => by rcases hk with e | e | e; exact .inl (.inl e); exact .inl (.inr (.inl e)); simp [Value.ownBlock] at e, (HKE.out.2.mono (fun _ e => Or.inr (Or.inl e))).trans hmb (fun _ e => .inl (.inl e))⟩
        rw [HM.out] at hd
        have HD := Lib.hid (RDid.after H.out HM1.out hd)
        clear hem hmb hd
        go_wp2_with fail
        go_ret
        exact ⟨rfl, HD.out⟩
end Go.Proofs.YteljihpheffjnaaDoor.Drum
/- The document's drum: Crash. -/
namespace Go.Proofs.YteljihpheffjnaaDoor.Drum
open Go.RowKit Go.Proofs.YteljihpheffjnaaDoor.Ord Go.Proofs.YteljihpheffjnaaDoorW.PrintWords Go.Proofs.YteljihpheffjnaaDoor.Base
set_option linter.unusedVariables false
set_option linter.unusedSimpArgs false
attribute [local go_sem] rdl_const rdl_func rdl_global rdl_nil rdl_cons

def RS.crash (R : RS) (zs : List Int) : RS := { (R.kept (fun k => zs.contains (k : Int)) R.W.length) with W := [], fuse := -1, gone := false }
/-- Amid the k-th loose write, i numbers having been looked at: it has been made sure, or not yet. -/
def RMid (w : World) (b : Nat) (sv wv : Value) (R : RS) (zs : List Int) (k i : Nat) (wr : World) : Prop :=
  ((zs.take i).contains (k : Int) = true ∧ RefAt wr b sv wv (R.kept (fun k => zs.contains (k : Int)) (k + 1)) ∨ (zs.take i).contains (k : Int) = false ∧ RefAt wr b sv wv (R.kept (fun k => zs.contains (k : Int)) k)) ∧ Mod (fun i => sv.ownBlock = some i) w wr
theorem set_same {l : List ByteArray} {j : Nat} {s : ByteArray} : (l.set j s).set j s = l.set j s := List.set_set s
theorem RMid.turns {w wr : World} {b : Nat} {sv wv : Value} {R : RS} {zs : List Int} {k i j : Nat} {qs : ByteArray} (h : RMid w b sv wv R zs k i wr) (hq : R.W[k]? = some ((j : Int), qs)) (hp : zs.contains (k : Int) = true) :
    ∃ R', RefAt wr b sv wv R' ∧ R'.S.length = R.S.length ∧ R'.W = R.W ∧ { R' with S := R'.S.set j qs } = R.kept (fun k => zs.contains (k : Int)) (k + 1) := by
  have hy := RS.kept_yes (R := R) (p := fun k => zs.contains (k : Int)) hq hp
  rw [Int.toNat_natCast] at hy
  rcases h.1 with ⟨_, h⟩ | ⟨_, h⟩
  · refine ⟨_, h, RS.kept_len _ _ _, rfl, ?_⟩
    rw [hy]; simp only [set_same]
  · exact ⟨_, h, RS.kept_len _ _ _, rfl, hy.symm⟩
theorem RMid.ref {w wr : World} {b : Nat} {sv wv : Value} {R : RS} {zs : List Int} {k i : Nat} (h : RMid w b sv wv R zs k i wr) : ∃ R', RefAt wr b sv wv R' ∧ R'.S.length = R.S.length ∧ R'.W = R.W := by
  rcases h.1 with ⟨_, h⟩ | ⟨_, h⟩
  · exact ⟨_, h, RS.kept_len _ _ _, rfl⟩
  · exact ⟨_, h, RS.kept_len _ _ _, rfl⟩
theorem contains_mem {zs : List Int} {i : Nat} {x : Int} (h : (zs.take i).contains x = true) : zs.contains x = true :=
  List.contains_iff_mem.2 (List.mem_of_mem_take (List.contains_iff_mem.1 h))
theorem contains_all {zs : List Int} {i : Nat} {x : Int} (h : (zs.take i).contains x = false) (hi : zs.length ≤ i) : zs.contains x = false := by
  rwa [List.take_of_length_le hi] at h
theorem take_contains {zs : List Int} {i : Nat} {x z : Int} (hz : zs[i]? = some z) : (zs.take (i + 1)).contains x = ((zs.take i).contains x || x == z) := by
  rw [List.take_add_one, hz]; simp only [Option.toList_some]; rw [List.contains_eq_any_beq, List.any_append, ← List.contains_eq_any_beq]; simp [Bool.beq_eq_decide_eq]
set_option maxRecDepth 100000 in
set_option maxHeartbeats 16000000 in
theorem rcrash_at (b : Nat) (sv wv : Value) (R : RS) (ka : Option Addr) (kn kc : Nat) (zs : List Int) (w : World) (h : RefAt w b sv wv R) (hz : IntsAt w ka kn zs) (hka : 0 < kn → ∀ ad, ka = some ad → sv.ownBlock ≠ some ad.block) :
    Calls Tryd.prog 45 #[.pointer (some ⟨b, 0, none⟩), .slice ka kn kc] w fun e w' => e = .returned (.tuple #[]) ∧ RDid w b sv wv (R.crash zs) w' := by
  obtain ⟨a, cap, hsv, ha⟩ := ownsRow_slice h.s
  obtain ⟨a', cap', hwv, ha'⟩ := ownsRow_slice h.w
  obtain ⟨n, hn⟩ : ∃ n, n = R.S.length := ⟨_, rfl⟩
  obtain ⟨m, hm⟩ : ∃ m, m = R.W.length := ⟨_, rfl⟩
  have hfw := h.fewW
  obtain ⟨hzl, hzm, hzc⟩ := hz
  have H := Lib.hid h
  rw [← hn] at hsv ha
  rw [← hm] at hwv ha' hfw
  have HN := Lib.hid hn
  have HM := Lib.hid hm
  have HSV := Lib.hid hsv
  have HWV := Lib.hid hwv
  have HA := Lib.hid ha
  have HA' := Lib.hid ha'
  have HZL := Lib.hid hzl
  have HZ : Hid (IntsAt w ka kn zs) := Lib.hid ⟨hzl, hzm, hzc⟩
  have HKA := Lib.hid hka
  clear h hn hm hsv hwv ha ha' hzl hzc hka
  go_enter Tryd.func45, Tryd.ntmps45
  go_wp2_with fail
  go_loopw [4] (fun i wr => ∃ k : Nat, k ≤ m ∧ i = .int .i64 (k : Int) ∧ RKept w b sv wv R (fun k => zs.contains (k : Int)) k wr) (fun i _ => m - (intOf i).toNat)
  case atStart => exact ⟨0, Nat.zero_le _, rfl, H.out, Mod.refl _ _⟩
  case round =>
    obtain ⟨k, hk, rfl, hkept⟩ := hrel
    obtain ⟨c0, c1, _, _⟩ := hkept.1.cell.cells
    rw [HSV.out] at c0
    rw [HWV.out] at c1
    have HKE := Lib.hid hkept
    clear hkept
    by_cases hlt : k < m
    · obtain ⟨g', rfl⟩ := HA'.out (by omega)
      obtain ⟨⟨qi, qs⟩, hq⟩ : ∃ q, R.W[k]? = some q := ⟨_, List.getElem?_eq_getElem (by have := HM.out; omega)⟩
      obtain ⟨hq0, hq1⟩ := H.out.at' _ (List.mem_of_getElem? hq)
      simp only at hq0 hq1
      rw [← HN.out] at hq1
      obtain ⟨j, rfl⟩ : ∃ j : Nat, qi = (j : Int) := ⟨qi.toNat, by omega⟩
      have hj : j < n := by omega
      obtain ⟨g, rfl⟩ := HA.out (by omega)
      have HQ := Lib.hid hq
      clear hq hq0 hq1
      go_wp2_with fail
      obtain ⟨wo, hwo⟩ : ∃ wo : World, wo = wr := ⟨_, rfl⟩
      have HWO := Lib.hid hwo
      clear hwo
      clear c0 c1
      go_loopw [5] (fun i wi => ∃ t : Nat, t ≤ kn ∧ i = .int .i64 (t : Int) ∧ RMid w b sv wv R zs k t wi) (fun i _ => kn - (intOf i).toNat)
      case atStart => exact ⟨0, Nat.zero_le _, rfl, .inr ⟨rfl, HKE.out.1⟩, HKE.out.2⟩
      case round =>
        obtain ⟨t, ht, rfl, hmid⟩ := hrel
        by_cases htl : t < kn
        · obtain ⟨z, hzt⟩ : ∃ z, zs[t]? = some z := ⟨_, List.getElem?_eq_getElem (by have := HZL.out; omega)⟩
          obtain ⟨_, _, hcz⟩ := IntsAt.kept HZ.out hmid.2 (fun h0 ad e x => HKA.out h0 ad e x)
          obtain ⟨ad, rfl, hcz2⟩ := hcz (by omega)
          have cz := hcz2 t z hzt
          have htc := fun x => take_contains (x := x) hzt
          have HTC := Lib.hid htc
          have HZT := Lib.hid hzt
          clear hcz hcz2 htc hzt
          by_cases hzk : z = (k : Int)
          · subst hzk
            have hpk : zs.contains (k : Int) = true := List.contains_iff_mem.2 (List.mem_of_getElem? HZT.out)
            obtain ⟨R', hr', hl', hw', hset⟩ := hmid.turns HQ.out hpk
            obtain ⟨c0, c1, _, _⟩ := hr'.cell.cells
            rw [HSV.out] at c0
            rw [HWV.out] at c1
            obtain ⟨cq1, cq2⟩ := hr'.put HWV.out (k := k) (q := ((j : Int), qs)) (by rw [hw']; exact HQ.out)
            simp only at cq1 cq2
            rw [HSV.out] at hr'
            have hjs : j < R'.S.length := by rw [hl']; have := HN.out; omega
            obtain ⟨old, cold⟩ : ∃ old, wr.cell? ⟨g, j, none⟩ = some (.string old) := ⟨_, hr'.str rfl (List.getElem?_eq_getElem hjs)⟩
            have fold := ownsRow_free (by have := hr'.s; rw [hl', ← HN.out] at this; exact this) j
            have hst := hr'.store hjs qs
            rw [hset] at hst
            have hmm : Mod (fun i => sv.ownBlock = some i) w (wr.setCell ⟨g, j, none⟩ (.string qs)) := hmid.2.trans (Mod.setCell (F := fun i => i = g) _ _ _ rfl) (fun i e => .inl (by rw [HSV.out, e]; rfl))
            have HST := Lib.hid hst
            have HMM := Lib.hid hmm
            clear hr' hjs hst hmm hset hl' hw' hmid hpk
            go_wp2_with fail
            refine' wp_region_factsT (S := (fun W => W = wr.drew)) (R := (fun a b => a = b)) [eqF _ _, eqF _ _, eqF _ _, eqF _ (.slice (some ⟨g, 0, none⟩) n cap), eqF _ _, eqF _ _, eqF _ _, eqF _ (.slice (some ⟨g', 0, none⟩) m cap'), eqF _ _, eqF _ _, eqF _ _, eqF _ (.int .i64 (j : Int)), eqF _ _, eqF _ _, eqF _ _, eqF _ (.slice (some ⟨g', 0, none⟩) m cap'), eqF _ _, eqF _ _, eqF _ _, eqF _ (.string qs), eqF _ (.pointer (some ⟨g, j, none⟩))] (by kernel_rfl) (by kernel_rfl) ?hS ?h0 (Ord.steps_cons ?s0 (Ord.steps_cons ?s1 (Ord.steps_cons ?s2 (Ord.steps_cons ?s3 (Ord.steps_cons ?s4 (Ord.steps_cons ?s5 (Ord.steps_cons ?s6 (Ord.steps_cons ?s7 (Ord.steps_cons ?s8 (Ord.steps_cons ?s9 (Ord.steps_cons ?s10 (Ord.steps_cons ?s11 (Ord.steps_cons ?s12 (Ord.steps_cons ?s13 (Ord.steps_cons ?s14 (Ord.steps_cons ?s15 (Ord.steps_cons ?s16 (Ord.steps_cons ?s17 (Ord.steps_cons ?s18 (Ord.steps_cons ?s19 (Ord.steps_cons ?s20 (Ord.steps_nil)))))))))))))))))))))) ?fin
            case s0 =>
              intro g W hSW hd
              try simp only [Nat.zero_add, Nat.reduceAdd] at hd ⊢
              with_reducible refine OpGives.pre_reads [] 57 ?_ ?_ ?_
              · rfl
              · kernel_rfl
              simp only [List.map_cons, List.map_nil]
              refine OpGives.val (w' := W) ?_ ⟨rfl, rfl⟩
              go_simp
              try with_reducible rfl
            case s1 =>
              intro g W hSW hd
              try simp only [Nat.zero_add, Nat.reduceAdd] at hd ⊢
              have h0 : g 0 = _ := hd 0 (by decide) (by kernel_rfl)
              with_reducible refine OpGives.pre_reads [(27, 0)] 57 ?_ ?_ ?_
              · rfl
              · kernel_rfl
              simp only [List.map_cons, List.map_nil]
              refine OpGives.val (w' := W) ?_ ⟨rfl, rfl⟩
              go_simp
              try with_reducible rfl
            case s2 =>
              intro g W hSW hd
              try simp only [Nat.zero_add, Nat.reduceAdd] at hd ⊢
              have h1 : g 1 = _ := hd 1 (by decide) (by kernel_rfl)
              with_reducible refine OpGives.pre_reads [(28, 1)] 57 ?_ ?_ ?_
              · rfl
              · kernel_rfl
              simp only [List.map_cons, List.map_nil]
              refine OpGives.val (w' := W) ?_ ⟨rfl, rfl⟩
              go_simp
              try with_reducible rfl
            case s3 =>
              intro g W hSW hd
              try simp only [Nat.zero_add, Nat.reduceAdd] at hd ⊢
              have h2 : g 2 = _ := hd 2 (by decide) (by kernel_rfl)
              with_reducible refine OpGives.pre_reads [(29, 2)] 57 ?_ ?_ ?_
              · rfl
              · kernel_rfl
              simp only [List.map_cons, List.map_nil]
              subst hSW; refine OpGives.val (w' := wr.drew) ?_ ⟨rfl, rfl⟩; go_simp
            case s4 =>
              intro g W hSW hd
              try simp only [Nat.zero_add, Nat.reduceAdd] at hd ⊢
              with_reducible refine OpGives.pre_reads [] 57 ?_ ?_ ?_
              · rfl
              · kernel_rfl
              simp only [List.map_cons, List.map_nil]
              refine OpGives.val (w' := W) ?_ ⟨rfl, rfl⟩
              go_simp
              try with_reducible rfl
            case s5 =>
              intro g W hSW hd
              try simp only [Nat.zero_add, Nat.reduceAdd] at hd ⊢
              have h4 : g 4 = _ := hd 4 (by decide) (by kernel_rfl)
              with_reducible refine OpGives.pre_reads [(31, 4)] 57 ?_ ?_ ?_
              · rfl
              · kernel_rfl
              simp only [List.map_cons, List.map_nil]
              refine OpGives.val (w' := W) ?_ ⟨rfl, rfl⟩
              go_simp
              try with_reducible rfl
            case s6 =>
              intro g W hSW hd
              try simp only [Nat.zero_add, Nat.reduceAdd] at hd ⊢
              have h5 : g 5 = _ := hd 5 (by decide) (by kernel_rfl)
              with_reducible refine OpGives.pre_reads [(32, 5)] 57 ?_ ?_ ?_
              · rfl
              · kernel_rfl
              simp only [List.map_cons, List.map_nil]
              refine OpGives.val (w' := W) ?_ ⟨rfl, rfl⟩
              go_simp
              try with_reducible rfl
            case s7 =>
              intro g W hSW hd
              try simp only [Nat.zero_add, Nat.reduceAdd] at hd ⊢
              have h6 : g 6 = _ := hd 6 (by decide) (by kernel_rfl)
              with_reducible refine OpGives.pre_reads [(33, 6)] 57 ?_ ?_ ?_
              · rfl
              · kernel_rfl
              simp only [List.map_cons, List.map_nil]
              subst hSW; refine OpGives.val (w' := wr.drew) ?_ ⟨rfl, rfl⟩; go_simp
            case s8 =>
              intro g W hSW hd
              try simp only [Nat.zero_add, Nat.reduceAdd] at hd ⊢
              with_reducible refine OpGives.pre_reads [] 57 ?_ ?_ ?_
              · rfl
              · kernel_rfl
              simp only [List.map_cons, List.map_nil]
              refine OpGives.val (w' := W) ?_ ⟨rfl, rfl⟩
              go_simp
              try with_reducible rfl
            case s9 =>
              intro g W hSW hd
              try simp only [Nat.zero_add, Nat.reduceAdd] at hd ⊢
              have h7 : g 7 = _ := hd 7 (by decide) (by kernel_rfl)
              have h8 : g 8 = _ := hd 8 (by decide) (by kernel_rfl)
              with_reducible refine OpGives.pre_reads [(34, 7), (35, 8)] 57 ?_ ?_ ?_
              · rfl
              · kernel_rfl
              simp only [List.map_cons, List.map_nil]
              refine OpGives.val (w' := W) ?_ ⟨rfl, rfl⟩
              go_simp
              try with_reducible rfl
            case s10 =>
              intro g W hSW hd
              try simp only [Nat.zero_add, Nat.reduceAdd] at hd ⊢
              have h9 : g 9 = _ := hd 9 (by decide) (by kernel_rfl)
              with_reducible refine OpGives.pre_reads [(36, 9)] 57 ?_ ?_ ?_
              · rfl
              · kernel_rfl
              simp only [List.map_cons, List.map_nil]
              refine OpGives.val (w' := W) ?_ ⟨rfl, rfl⟩
              go_simp
              try with_reducible rfl
            case s11 =>
              intro g W hSW hd
              try simp only [Nat.zero_add, Nat.reduceAdd] at hd ⊢
              have h10 : g 10 = _ := hd 10 (by decide) (by kernel_rfl)
              with_reducible refine OpGives.pre_reads [(37, 10)] 57 ?_ ?_ ?_
              · rfl
              · kernel_rfl
              simp only [List.map_cons, List.map_nil]
              subst hSW; refine OpGives.val (w' := wr.drew) ?_ ⟨rfl, rfl⟩; go_simp
            case s12 =>
              intro g W hSW hd
              try simp only [Nat.zero_add, Nat.reduceAdd] at hd ⊢
              with_reducible refine OpGives.pre_reads [] 57 ?_ ?_ ?_
              · rfl
              · kernel_rfl
              simp only [List.map_cons, List.map_nil]
              refine OpGives.val (w' := W) ?_ ⟨rfl, rfl⟩
              go_simp
              try with_reducible rfl
            case s13 =>
              intro g W hSW hd
              try simp only [Nat.zero_add, Nat.reduceAdd] at hd ⊢
              have h12 : g 12 = _ := hd 12 (by decide) (by kernel_rfl)
              with_reducible refine OpGives.pre_reads [(39, 12)] 57 ?_ ?_ ?_
              · rfl
              · kernel_rfl
              simp only [List.map_cons, List.map_nil]
              refine OpGives.val (w' := W) ?_ ⟨rfl, rfl⟩
              go_simp
              try with_reducible rfl
            case s14 =>
              intro g W hSW hd
              try simp only [Nat.zero_add, Nat.reduceAdd] at hd ⊢
              have h13 : g 13 = _ := hd 13 (by decide) (by kernel_rfl)
              with_reducible refine OpGives.pre_reads [(40, 13)] 57 ?_ ?_ ?_
              · rfl
              · kernel_rfl
              simp only [List.map_cons, List.map_nil]
              refine OpGives.val (w' := W) ?_ ⟨rfl, rfl⟩
              go_simp
              try with_reducible rfl
            case s15 =>
              intro g W hSW hd
              try simp only [Nat.zero_add, Nat.reduceAdd] at hd ⊢
              have h14 : g 14 = _ := hd 14 (by decide) (by kernel_rfl)
              with_reducible refine OpGives.pre_reads [(41, 14)] 57 ?_ ?_ ?_
              · rfl
              · kernel_rfl
              simp only [List.map_cons, List.map_nil]
              subst hSW; refine OpGives.val (w' := wr.drew) ?_ ⟨rfl, rfl⟩; go_simp
            case s16 =>
              intro g W hSW hd
              try simp only [Nat.zero_add, Nat.reduceAdd] at hd ⊢
              with_reducible refine OpGives.pre_reads [] 57 ?_ ?_ ?_
              · rfl
              · kernel_rfl
              simp only [List.map_cons, List.map_nil]
              refine OpGives.val (w' := W) ?_ ⟨rfl, rfl⟩
              go_simp
              try with_reducible rfl
            case s17 =>
              intro g W hSW hd
              try simp only [Nat.zero_add, Nat.reduceAdd] at hd ⊢
              have h15 : g 15 = _ := hd 15 (by decide) (by kernel_rfl)
              have h16 : g 16 = _ := hd 16 (by decide) (by kernel_rfl)
              with_reducible refine OpGives.pre_reads [(42, 15), (43, 16)] 57 ?_ ?_ ?_
              · rfl
              · kernel_rfl
              simp only [List.map_cons, List.map_nil]
              refine OpGives.val (w' := W) ?_ ⟨rfl, rfl⟩
              go_simp
              try with_reducible rfl
            case s18 =>
              intro g W hSW hd
              try simp only [Nat.zero_add, Nat.reduceAdd] at hd ⊢
              have h17 : g 17 = _ := hd 17 (by decide) (by kernel_rfl)
              with_reducible refine OpGives.pre_reads [(44, 17)] 57 ?_ ?_ ?_
              · rfl
              · kernel_rfl
              simp only [List.map_cons, List.map_nil]
              refine OpGives.val (w' := W) ?_ ⟨rfl, rfl⟩
              go_simp
              try with_reducible rfl
            case s19 =>
              intro g W hSW hd
              try simp only [Nat.zero_add, Nat.reduceAdd] at hd ⊢
              have h18 : g 18 = _ := hd 18 (by decide) (by kernel_rfl)
              with_reducible refine OpGives.pre_reads [(45, 18)] 57 ?_ ?_ ?_
              · rfl
              · kernel_rfl
              simp only [List.map_cons, List.map_nil]
              subst hSW; refine OpGives.val (w' := wr.drew) ?_ ⟨rfl, rfl⟩; go_simp
            case s20 =>
              intro g W hSW hd
              try simp only [Nat.zero_add, Nat.reduceAdd] at hd ⊢
              have h3 : g 3 = _ := hd 3 (by decide) (by kernel_rfl)
              have h11 : g 11 = _ := hd 11 (by decide) (by kernel_rfl)
              with_reducible refine OpGives.pre_reads [(30, 3), (38, 11)] 57 ?_ ?_ ?_
              · rfl
              · kernel_rfl
              simp only [List.map_cons, List.map_nil]
              subst hSW; refine OpGives.val (w' := wr.drew) ?_ ⟨rfl, rfl⟩; go_simp
            case hS => rintro a c h rfl; exact h
            case h0 => rfl
            case fin =>
              intro v W hSW hf
              subst hSW
              have h19 : v 19 = _ := hf 19 (Nat.lt_of_lt_of_eq (by decide : 19 < 21) rfl)
              have h20 : v 20 = _ := hf 20 (Nat.lt_of_lt_of_eq (by decide : 20 < 21) rfl)
              clear hf
              generalize hF : Ord.pre _ _ v _ = F
              rw [Ord.pre_lit [some 27, some 28, some 29, some 30, some 31, some 32, some 33, some 34, some 35, some 36, some 37, some 38, some 39, some 40, some 41, some 42, some 43, some 44, some 45, some 46, some 47]
                (by kernel_rfl)] at hF
              simp only [Ord.puts, Nat.zero_add, Nat.reduceAdd] at hF
              subst hF
              rw [h19, h20]
              clear h19 h20
              refine any_one (i := 21) (by kernel_rfl) ?_
              refine wpOp_skip (w' := wr.drew.setCell ⟨g, j, none⟩ (.string qs)) rfl rfl (by go_simp) ?_
              refine wpAny_done (by kernel_rfl) ?_ _
              simp only [List.getElem_toArray, List.getElem_cons_succ, List.getElem_cons_zero]
              go_frame
              have hkd : RMid w b sv wv R zs k (t + 1) (wr.drew.setCell ⟨g, j, none⟩ (.string qs)) := by
                have e : wr.drew.setCell ⟨g, j, none⟩ (.string qs) = (wr.setCell ⟨g, j, none⟩ (.string qs)).drew := rfl
                rw [e]
                refine ⟨.inl ⟨by rw [HTC.out]; simp, ?_⟩, HMM.out.drew⟩
                rw [HSV.out]
                exact HST.out.kept (Mod.drew (Mod.refl (fun _ => False) _)) (fun _ _ => id)
              have HKD := Lib.hid hkd
              clear hkd cold fold c0 c1 cq1 cq2 cz
              generalize wr.drew.setCell ⟨g, j, none⟩ (.string qs) = wy at *
              go_wp2_with fail
              go_roundw
              case rel => exact ⟨t + 1, by omega, by go_num, HKD.out⟩
              case measure => simp [intOf]; omega
          · have hzk' : (z == (k : Int)) = false := by simpa using hzk
            have hkz : ((k : Int) == z) = false := by simpa using fun e => hzk e.symm
            have hkd : RMid w b sv wv R zs k (t + 1) wr := by
              obtain ⟨h, hm⟩ := hmid
              refine ⟨?_, hm⟩
              rw [HTC.out, hkz, Bool.or_false]; exact h
            have HKD := Lib.hid hkd
            clear hkd hmid hkz
            go_wp2_with fail
            go_roundw
            case rel => exact ⟨t + 1, by omega, by go_num, HKD.out⟩
            case measure => simp [intOf]; omega
        · obtain rfl : t = kn := by omega
          have hkd : RKept w b sv wv R (fun k => zs.contains (k : Int)) (k + 1) wr := by
            obtain ⟨h, hm⟩ := hmid
            rcases h with ⟨_, h⟩ | ⟨hc, h⟩
            · exact ⟨h, hm⟩
            · refine ⟨?_, hm⟩
              rw [RS.kept_no (p := fun k => zs.contains (k : Int)) HQ.out (contains_all hc (by have := HZL.out; omega))]
              exact h
          have HKD := Lib.hid hkd
          clear hkd hmid
          go_wp2_with fail
          go_roundw
          case rel => exact ⟨k + 1, by omega, by go_num, HKD.out⟩
          case measure => simp [intOf]; omega
    · obtain rfl : k = m := by omega
      have f1 := HKE.out.1.cell.free 1
      have f2 := HKE.out.1.cell.free 2
      have f3 := HKE.out.1.cell.free 3
      obtain ⟨_, _, c2, c3⟩ := HKE.out.1.cell.cells
      have hcs := ((HKE.out.1.cell.set1 (.slice none 0 0)).set2 (-1)).set3 false
      have hmb : Mod (fun i => i = b) wr (((wr.setCell ⟨b, 1, none⟩ (.slice none 0 0)).setCell ⟨b, 2, none⟩ (.int .i64 (-1))).setCell ⟨b, 3, none⟩ (.bool false)) :=
        Mod.trans (F := fun i => i = b) (G := fun i => i = b) (Mod.trans (F := fun i => i = b) (G := fun i => i = b) (Mod.setCell _ _ _ rfl) (Mod.setCell _ _ _ rfl) (fun _ e => .inl e)) (Mod.setCell _ _ _ rfl) (fun _ e => .inl e)
      have hd : RDid w b sv wv (R.crash zs) (((wr.setCell ⟨b, 1, none⟩ (.slice none 0 0)).setCell ⟨b, 2, none⟩ (.int .i64 (-1))).setCell ⟨b, 3, none⟩ (.bool false)) := by
        have hk := HKE.out.1
        rw [HM.out] at hk
        exact ⟨sv, .slice none 0 0, ⟨hcs, ownsRow_mod hk.s hmb (fun k hk' e => hk.neS (by rw [hk', e])), World.ownsRow_nil _ _ _ _, hk.few, by simp [RS.crash], fun q hq => by cases hq⟩,
          fun k hk => by rcases hk with e | e | e; exact .inl (.inl e); exact .inl (.inr (.inl e)); simp [Value.ownBlock] at e, (HKE.out.2.mono (fun _ e => Or.inr (Or.inl e))).trans hmb (fun _ e => .inl (.inl e))⟩
      have HD := Lib.hid hd
      clear hcs hmb hd
      go_wp2_with fail
      go_end0
      exact ⟨rfl, HD.out⟩
end Go.Proofs.YteljihpheffjnaaDoor.Drum
/- The document's drum: Copy. -/
namespace Go.Proofs.YteljihpheffjnaaDoor.Drum
open Go.RowKit Go.Proofs.YteljihpheffjnaaDoor.Ord Go.Proofs.YteljihpheffjnaaDoorW.PrintWords Go.Proofs.YteljihpheffjnaaDoor.Base
set_option linter.unusedVariables false
set_option linter.unusedSimpArgs false
attribute [local go_sem] rdl_const rdl_func rdl_global rdl_nil rdl_cons

theorem append_none {t E ty : TypeId} {i : TypeInfo} (ht : Tryd.prog.underlying t = some (.slice E)) (hi : Tryd.prog.info? E = some i) {x : Addr} {a : Option Addr} {c : Nat} {w : World} :
    (Builtin.append_ #[t, t] ty #[.slice (some x) 0 0, .slice a 0 c]).run Tryd.prog w = .ok (.slice (some x) 0 0) w := by
  have hl : ∀ y W, (loadCells y 0).run Tryd.prog W = .ok #[] W := fun _ _ => rfl
  have hst : ∀ y W, (storeCells y []).run Tryd.prog W = .ok () W := fun _ _ => rfl
  cases a with
  | none => simp [Builtin.append_, run_underlying ht, sizeOf, typeInfo, hi, Builtin.lenOf, Builtin.firstCells, hst]
  | some a => simp [Builtin.append_, run_underlying ht, sizeOf, typeInfo, hi, Builtin.lenOf, Builtin.firstCells, hl, hst]
/-- An empty slice that is not nil. -/
def emptyN (base : Nat) (E : TypeId) : Fact NewMem := ⟨fun v W => ∃ x, v = .slice (some ⟨x, 0, none⟩) 0 0 ∧ W.heap[x]? = some (.cells #[] E (0, 0)) ∧ base ≤ x,
  fun v W W' ⟨x, e, hx, hb⟩ hn => ⟨x, e, (hn.block x (Array.getElem?_eq_some_iff.1 hx).1).trans hx, hb⟩⟩
/-- A slice of its own with the same cells. -/
def clonedN (base : Nat) (E : TypeId) (size n : Nat) (xs : List Value) : Fact NewMem :=
  ⟨fun v W => ∃ a cap, v = .slice a n cap ∧ W.ownsRow 0 E size (.slice a n cap) n xs ∧ (∀ k, (Value.slice a n cap).ownBlock = some k → base ≤ k),
   fun v W W' ⟨a, cap, e, ho, hk⟩ hn => ⟨a, cap, e, ownsRow_mod ho (Mod.of_below (F := fun _ => False) hn) (fun _ _ => id), hk⟩⟩
def RCopyAt (R : RS) (w : World) (e : Ending) (w' : World) : Prop := ∃ b sv wv, e = .returned (.pointer (some ⟨b, 0, none⟩)) ∧ (∀ k, rfoot b sv wv k → w.heap.size ≤ k) ∧ RefAt w' b sv wv R ∧ NewMem w w'
theorem strCells_one (l : List ByteArray) : ∀ u ∈ strCells l, u.oneCell' = true := fun u hu => by
  obtain ⟨s, _, rfl⟩ := List.mem_map.1 hu; rfl
theorem putCells_one (l : List (Int × ByteArray)) : ∀ u ∈ putCells l, u.oneCell' = true := fun u hu => by
  obtain ⟨q, _, hu⟩ := List.mem_flatMap.1 hu
  simp at hu; rcases hu with rfl | rfl <;> rfl
end Go.Proofs.YteljihpheffjnaaDoor.Drum
/- The document's drum among things that lie apart; both drums say the same. -/
namespace Go.Proofs.YteljihpheffjnaaDoor.Drum
open Go.RowKit Go.Proofs.YteljihpheffjnaaDoor.Ord Go.Proofs.YteljihpheffjnaaDoorW.PrintWords Go.Proofs.YteljihpheffjnaaDoor.Base
set_option linter.unusedVariables false
set_option linter.unusedSimpArgs false

/-- The document's drum. -/
def refT (b : Nat) (sv wv : Value) (R : RS) : Thing where
  P := fun W => RefAt W b sv wv R
  F := rfoot b sv wv
  kept := fun W W' G h hm hG => h.kept hm hG
  lt := fun W h k hk => h.lt k hk
def IsRef (b : Nat) (R : RS) (t : Thing) : Prop := ∃ sv wv, t = refT b sv wv R
def RTurned (B : Nat) (w : World) (l : List Thing) (b : Nat) (R : RS) (W' : World) : Prop := ∃ t, IsRef b R t ∧ Sep B w W' (t :: l)
theorem RTurned.of_did {B : Nat} {w W W' : World} {l : List Thing} {b : Nat} {sv wv : Value} {R R' : RS} (h : Sep B w W (refT b sv wv R :: l)) (hd : RDid W b sv wv R' W') : RTurned B w l b R' W' := by
  obtain ⟨sv', wv', hat, hk, hm⟩ := hd
  exact ⟨refT b sv' wv' R', ⟨_, _, rfl⟩, h.turn hm hat hk⟩
section
variable {B : Nat} {w W : World} {l : List Thing} {b : Nat} {R : RS} {t : Thing}
theorem rwrite_sep (h : Sep B w W (t :: l)) (ht : IsRef b R t) (i : Int) (s : ByteArray) (hf : R.fuse ≤ 9223372036854775807) (hW : R.W.length < 1000000) (hs : s.size ≤ maxLen) :
    Calls Tryd.prog 49 #[.pointer (some ⟨b, 0, none⟩), .int .i64 i, .string s] W fun e W' => e = .returned (.int .i64 (R.write i s).1) ∧ RTurned B w l b (R.write i s).2 W' := by
  obtain ⟨sv, wv, rfl⟩ := ht
  exact (rwrite_at b sv wv R i s W (h.all _ List.mem_cons_self).1 hf hW hs).mono fun e W' ⟨he, hd⟩ => ⟨he, RTurned.of_did h hd⟩
theorem rsettle_sep (h : Sep B w W (t :: l)) (ht : IsRef b R t) (hf : R.fuse ≤ 9223372036854775807) :
    Calls Tryd.prog 64 #[.pointer (some ⟨b, 0, none⟩)] W fun e W' => e = .returned (.int .i64 R.settle.1) ∧ RTurned B w l b R.settle.2 W' := by
  obtain ⟨sv, wv, rfl⟩ := ht
  exact (rsettle_at b sv wv R W (h.all _ List.mem_cons_self).1 hf).mono fun e W' ⟨he, hd⟩ => ⟨he, RTurned.of_did h hd⟩
theorem rarm_sep (h : Sep B w W (t :: l)) (ht : IsRef b R t) (i : Int) :
    Calls Tryd.prog 46 #[.pointer (some ⟨b, 0, none⟩), .int .i64 i] W fun e W' => e = .returned (.int .i64 (R.arm i).1) ∧ RTurned B w l b (R.arm i).2 W' := by
  obtain ⟨sv, wv, rfl⟩ := ht
  exact (rarm_at b sv wv R i W (h.all _ List.mem_cons_self).1).mono fun e W' ⟨he, hd⟩ => ⟨he, RTurned.of_did h hd⟩
theorem rcrash_sep (h : Sep B w W (t :: l)) (ht : IsRef b R t) (a : Option Addr) (n kc : Nat) (zs : List Int) (hz : IntsAt W a n zs) (ha : 0 < n → ∀ ad, a = some ad → ¬ t.F ad.block) :
    Calls Tryd.prog 45 #[.pointer (some ⟨b, 0, none⟩), .slice a n kc] W fun e W' => e = .returned (.tuple #[]) ∧ RTurned B w l b (R.crash zs) W' := by
  obtain ⟨sv, wv, rfl⟩ := ht
  exact (rcrash_at b sv wv R a n kc zs W (h.all _ List.mem_cons_self).1 hz (fun h0 ad e x => ha h0 ad e (.inr (.inl x)))).mono fun e W' ⟨he, hd⟩ => ⟨he, RTurned.of_did h hd⟩
theorem rread_sep (h : Sep B w W (t :: l)) (ht : IsRef b R t) (i : Int) :
    Calls Tryd.prog 47 #[.pointer (some ⟨b, 0, none⟩), .int .i64 i] W fun e W' => e = .returned (.tuple #[.string (R.read i).1, .int .i64 (R.read i).2]) ∧ W = W' := by
  obtain ⟨sv, wv, rfl⟩ := ht
  exact rread_at b sv wv R i W (h.all _ List.mem_cons_self).1
def RMade (B : Nat) (w : World) (l : List Thing) (R : RS) (v : Value) (W' : World) : Prop := ∃ b t, v = .pointer (some ⟨b, 0, none⟩) ∧ IsRef b R t ∧ Sep B w W' (t :: l)
theorem rnew_sep (h : Sep B w W l) (n : Nat) (h0 : 0 < n) (hn : n ≤ 4096) :
    Calls Tryd.prog 21 #[.int .i64 (n : Int)] W fun e W' => ∃ v, e = .returned (.tuple #[v, .int .i64 0]) ∧ RMade B w l (RS.zero n) v W' := by
  refine (rnew_ok n h0 hn W).mono fun e W' ⟨b', he, hb, sv', hr, hsv, hm⟩ => ?_
  refine ⟨_, he, b', refT b' sv' (.slice none 0 0) (RS.zero n), rfl, ⟨_, _, rfl⟩, h.new hm hr (fun k hk => ?_)⟩
  rcases hk with e | e | e
  · rw [e]; exact hb
  · exact hsv k e
  · simp [Value.ownBlock] at e
theorem IsRef.cells (h : Sep B w W (t :: l)) (ht : IsRef b R t) : ∃ a cap a' cap', W.cell? ⟨b, 0, none⟩ = some (.slice a R.S.length cap) ∧ W.cell? ⟨b, 1, none⟩ = some (.slice a' R.W.length cap') ∧ W.cell? ⟨b, 3, none⟩ = some (.bool R.gone) := by
  obtain ⟨sv, wv, rfl⟩ := ht
  have hr : RefAt W b sv wv R := (h.all _ List.mem_cons_self).1
  obtain ⟨a, cap, hsv, _⟩ := ownsRow_slice hr.s
  obtain ⟨a', cap', hwv, _⟩ := ownsRow_slice hr.w
  exact ⟨a, cap, a', cap', hsv ▸ hr.cell.cells.1, hwv ▸ hr.cell.cells.2.1, hr.cell.cells.2.2.2⟩
theorem IsRef.bounds (h : Sep B w W (t :: l)) (ht : IsRef b R t) : R.S.length ≤ 4096 ∧ R.W.length ≤ 1000000 ∧ ∀ q ∈ R.W, 0 ≤ q.1 ∧ q.1 < (R.S.length : Int) := by
  obtain ⟨sv, wv, rfl⟩ := ht
  have hr : RefAt W b sv wv R := (h.all _ List.mem_cons_self).1
  exact ⟨hr.few, hr.fewW, hr.at'⟩
theorem IsDrum.bounds {D : DS} (h : Sep B w W (t :: l)) (ht : IsDrum b D t) : 0 < D.sure.length ∧ D.sure.length ≤ 4096 ∧ (∀ s ∈ D.sure, s.length = 64) ∧ ∀ q ∈ D.loose, q.2.length = 64 ∧ q.1 < D.sure.length := by
  obtain ⟨sb, cap, lv, rfl⟩ := ht
  have hd : DrumAt W b sb cap lv D := (h.all _ List.mem_cons_self).1
  exact ⟨hd.pos, hd.few, hd.wsure, hd.wloose⟩
end

/-! The plain laws. -/
def str (l : List UInt8) : ByteArray := ⟨l.toArray⟩
theorem str_toList (s : ByteArray) : str s.data.toList = s := by cases s; simp [str]
/-- Both drums say the same. -/
structure Sim (D : DS) (R : RS) : Prop where
  s : R.S = D.sure.map str
  w : R.W = D.loose.map fun q => ((q.1 : Int), str q.2)
  fuse : R.fuse = if D.armed then D.left else -1
  left : D.armed = true → 0 ≤ D.left ∧ D.left ≤ 9223372036854775807
  gone : R.gone = D.down
  spent : D.down = true → D.armed = true ∧ D.left = 0
theorem Sim.fuse_le {D : DS} {R : RS} (h : Sim D R) : R.fuse ≤ 9223372036854775807 := by
  rw [h.fuse]; split
  · exact (h.left (by assumption)).2
  · omega
theorem sim_zero (n : Nat) : Sim (DS.zero n) (RS.zero n) := ⟨by simp [DS.zero, RS.zero, zsec, str], by simp [DS.zero, RS.zero], by simp [DS.zero, RS.zero], by simp [DS.zero], rfl, by simp [DS.zero]⟩
theorem sim_burn {D : DS} {R : RS} (h : Sim D R) : (D.burn.1 = 0 ∧ R.burnt.1 = false ∨ D.burn.1 = 9 ∧ R.burnt.1 = true) ∧ Sim D.burn.2 R.burnt.2 := by
  obtain ⟨h1, h2, h3, h4, h5, h6⟩ := h
  obtain ⟨sure, loose, armed, left, down⟩ := D
  obtain ⟨S, Wl, fuse, gone⟩ := R
  simp only at h1 h2 h3 h4 h5 h6
  subst h5
  cases armed with
  | false =>
    simp only [Bool.false_eq_true, if_false] at h3
    subst h3
    cases gone with
    | false => exact ⟨by simp [RS.burnt, DS.burn, burns], ⟨h1, h2, by simp [RS.burnt, DS.burn, burns], by simp [DS.burn, burns], by simp [RS.burnt, DS.burn, burns], by simp [DS.burn, burns]⟩⟩
    | true => exact absurd (h6 rfl).1 (by simp)
  | true =>
    simp only [if_true] at h3
    subst h3
    obtain ⟨hl0, hl1⟩ := h4 rfl
    by_cases h0 : fuse = 0
    · subst h0
      exact ⟨by simp [RS.burnt, DS.burn, burns], ⟨h1, h2, by simp [RS.burnt, DS.burn, burns], by simp [DS.burn, burns], by simp [RS.burnt, DS.burn, burns], by simp [DS.burn, burns]⟩⟩
    · have hp : 0 < fuse := by omega
      have hw : IntKind.i64.wrap (fuse - 1) = fuse - 1 := IntWalk.i64_in _ (by omega)
      cases gone with
      | false => exact ⟨by simp [RS.burnt, DS.burn, burns, h0], ⟨h1, h2, by simp [RS.burnt, DS.burn, burns, h0, hp, hw], by simp [DS.burn, burns, h0, hw]; omega, by simp [RS.burnt, DS.burn, burns, h0], by simp [DS.burn, burns, h0]⟩⟩
      | true => exact absurd (h6 rfl).2 h0
theorem sim_write {D : DS} {R : RS} (h : Sim D R) (i : Int) (s : ByteArray) : (D.write i s.data.toList).1 = (R.write i s).1 ∧ Sim (D.write i s.data.toList).2 (R.write i s).2 := by
  have hl : R.S.length = D.sure.length := by rw [h.s, List.length_map]
  have hsz : s.data.toList.length = s.size := by simp
  unfold DS.write RS.write
  rw [hl, hsz]
  by_cases hc : i < 0 ∨ (D.sure.length : Int) ≤ i ∨ s.size ≠ 64
  · rw [if_pos hc, if_pos hc]; exact ⟨rfl, h⟩
  · rw [if_neg hc, if_neg hc]
    obtain ⟨hb, hs⟩ := sim_burn h
    rcases hb with ⟨h0, hf⟩ | ⟨h9, ht⟩
    · rw [if_pos h0, if_neg (by rw [hf]; simp)]
      refine ⟨rfl, hs.s, ?_, hs.fuse, hs.left, hs.gone, hs.spent⟩
      have : ((i.toNat : Nat) : Int) = i := by omega
      simp [h.w, str_toList, this]
    · rw [if_neg (by rw [h9]; decide), if_pos ht]; exact ⟨h9, hs⟩
theorem sim_keep (p : Nat → Bool) (l : List (Nat × List UInt8)) (s : List (List UInt8)) : ∀ k, rkeepN p (l.map fun q => ((q.1 : Int), str q.2)) (s.map str) k = (keepN p l s k).map str
  | 0 => rfl
  | k + 1 => by
    unfold rkeepN keepN
    rw [List.getElem?_map, sim_keep p l s k]
    cases l[k]? with
    | none => rfl
    | some q =>
      simp only [Option.map_some]
      split
      · simp
      · rfl
theorem sim_settle {D : DS} {R : RS} (h : Sim D R) : D.settle.1 = R.settle.1 ∧ Sim D.settle.2 R.settle.2 := by
  unfold DS.settle RS.settle
  obtain ⟨hb, hs⟩ := sim_burn h
  rcases hb with ⟨h0, hf⟩ | ⟨h9, ht⟩
  · rw [if_pos h0, if_neg (by rw [hf]; simp)]
    refine ⟨rfl, ?_, rfl, hs.fuse, hs.left, hs.gone, hs.spent⟩
    have e1 : R.burnt.2.S = R.S := rfl
    have e2 : R.burnt.2.W = R.W := rfl
    show rkeepN _ R.burnt.2.W R.burnt.2.S R.W.length = _
    rw [e1, e2, h.w, h.s, List.length_map]
    exact sim_keep _ _ _ _
  · rw [if_neg (by rw [h9]; decide), if_pos ht]; exact ⟨h9, hs⟩
theorem sim_crash {D : DS} {R : RS} (h : Sim D R) (zs : List Int) : Sim (D.crash zs) (R.crash zs) := by
  refine ⟨?_, rfl, rfl, (fun e => by cases e), rfl, (fun e => by cases e)⟩
  show rkeepN _ R.W R.S R.W.length = _
  rw [h.w, h.s, List.length_map]
  exact sim_keep _ _ _ _
theorem sim_arm {D : DS} {R : RS} (h : Sim D R) (n : Int) (hn : n ≤ 9223372036854775807) : (D.arm n).1 = (R.arm n).1 ∧ Sim (D.arm n).2 (R.arm n).2 := by
  unfold DS.arm RS.arm
  by_cases h0 : n < 0
  · rw [if_pos h0, if_pos h0]; exact ⟨rfl, h⟩
  · rw [if_neg h0, if_neg h0, h.gone]
    by_cases hd : D.down = true
    · rw [if_pos hd, if_pos hd]; exact ⟨rfl, h⟩
    · rw [if_neg hd, if_neg hd]
      exact ⟨rfl, h.s, h.w, by simp, fun _ => ⟨by simp only; omega, hn⟩, rfl, fun e => absurd e hd⟩
theorem shows_fold (l : List (Nat × List UInt8)) (i : Nat) (s : List UInt8) : showsN (l.map fun q => ((q.1 : Int), str q.2)) (i : Int) (str s) = str (match l.reverse.find? (fun q => q.1 == i) with | some q => q.2 | none => s) := by
  unfold showsN
  rw [← List.foldr_reverse, ← List.map_reverse]
  induction l.reverse with
  | nil => rfl
  | cons q t ih =>
    simp only [List.map_cons, List.foldr_cons, List.find?_cons]
    by_cases he : q.1 = i
    · subst he; simp
    · have h1 : ¬ ((q.1 : Int) = (i : Int)) := by omega
      have h2 : (q.1 == i) = false := by simpa using he
      rw [if_neg h1, ih, h2]
theorem sim_read {D : DS} {R : RS} (h : Sim D R) (i : Int) : str (D.read i).1 = (R.read i).1 ∧ (D.read i).2 = (R.read i).2 := by
  have hl : R.S.length = D.sure.length := by rw [h.s, List.length_map]
  unfold DS.read RS.read
  rw [hl, h.gone]
  by_cases hd : D.down = true
  · rw [if_pos hd, if_pos hd]; exact ⟨rfl, rfl⟩
  · rw [if_neg hd, if_neg hd]
    by_cases hc : 0 ≤ i ∧ i < (D.sure.length : Int)
    · rw [if_pos hc, if_pos hc]
      refine ⟨?_, rfl⟩
      unfold DS.shows RS.shows
      have e : R.S.getD i.toNat ByteArray.empty = str (D.sure.getD i.toNat []) := by
        rw [h.s, List.getD_eq_getElem?_getD, List.getD_eq_getElem?_getD, List.getElem?_map]
        cases D.sure[i.toNat]? <;> rfl
      rw [e, h.w, shows_fold]; rfl
    · rw [if_neg hc, if_neg hc]; exact ⟨rfl, rfl⟩
theorem sim_sure {D : DS} {R : RS} (h : Sim D R) (i : Int) : str (D.sureText i) = R.sureText i := by
  have hl : R.S.length = D.sure.length := by rw [h.s, List.length_map]
  unfold DS.sureText RS.sureText
  rw [hl]
  by_cases hc : 0 ≤ i ∧ i < (D.sure.length : Int)
  · rw [if_pos hc, if_pos hc, h.s, List.getD_eq_getElem?_getD, List.getD_eq_getElem?_getD, List.getElem?_map]
    cases D.sure[i.toNat]? <;> rfl
  · rw [if_neg hc, if_neg hc]; rfl
end Go.Proofs.YteljihpheffjnaaDoor.Drum
