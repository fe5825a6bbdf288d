/- The document's drum: plain states, how they lie in memory; burnt, Arm, Sure, Shows, Read. -/
import Derived.Test.YtjnbdikhajnciaaEm
namespace Go.Proofs.Ytjnbdikhajnciaa.Drum
open Go.RowKit Go.Proofs.Ytjnbdikhajnciaa.Ord Go.Proofs.YtjnbdikhajnciaaW.PrintWords Go.Proofs.Ytjnbdikhajnciaa.Base
set_option linter.unusedVariables false
set_option linter.unusedSimpArgs false

/-- The document's drum in plain terms. -/
structure RS where
  S : List ByteArray
  W : List (Int × ByteArray)
  fuse : Int
  gone : Bool
def strCells (l : List ByteArray) : List Value := l.map Value.string
def putCells (l : List (Int × ByteArray)) : List Value := l.flatMap fun p => [Value.int .i64 p.1, Value.string p.2]
def RCell (w : World) (b : Nat) (sv wv : Value) (fuse : Int) (gone : Bool) : Prop :=
  w.heap[b]? = some (.cells #[sv, wv, .int .i64 fuse, .bool gone] 99 (0, 0))
section
variable {w : World} {b : Nat} {sv wv : Value} {fuse : Int} {gone : Bool}
theorem RCell.cells (h : RCell w b sv wv fuse gone) : w.cell? ⟨b, 0, none⟩ = some sv ∧ w.cell? ⟨b, 1, none⟩ = some wv ∧ w.cell? ⟨b, 2, none⟩ = some (.int .i64 fuse) ∧ w.cell? ⟨b, 3, none⟩ = some (.bool gone) := by
  unfold RCell at h; simp [World.cell?, h]
theorem RCell.free (h : RCell w b sv wv fuse gone) (i : Nat) : w.frozen? ⟨b, i, none⟩ = false := frozen_of_row w b i _ _ h
theorem RCell.lt (h : RCell w b sv wv fuse gone) : b < w.heap.size := (Array.getElem?_eq_some_iff.1 h).1
theorem RCell.kept {F : Nat → Prop} {w' : World} (h : RCell w b sv wv fuse gone) (hm : Mod F w w') (hb : ¬ F b) : RCell w' b sv wv fuse gone := (hm.block b h.lt hb).trans h
theorem RCell.set0 (h : RCell w b sv wv fuse gone) (v : Value) : RCell (w.setCell ⟨b, 0, none⟩ v) b v wv fuse gone := cells_set h 0 v
theorem RCell.set1 (h : RCell w b sv wv fuse gone) (v : Value) : RCell (w.setCell ⟨b, 1, none⟩ v) b sv v fuse gone := cells_set h 1 v
theorem RCell.set2 (h : RCell w b sv wv fuse gone) (v : Int) : RCell (w.setCell ⟨b, 2, none⟩ (.int .i64 v)) b sv wv v gone := cells_set h 2 _
theorem RCell.set3 (h : RCell w b sv wv fuse gone) (v : Bool) : RCell (w.setCell ⟨b, 3, none⟩ (.bool v)) b sv wv fuse v := cells_set h 3 _
end
/-- A row's block is no struct's. -/
theorem ownsRow_ne {w : World} {e t : TypeId} {s : Nat} {v : Value} {n : Nat} {xs : List Value} {b : Nat} {cs : Array Value} {fr : Nat × Nat} (h : w.ownsRow 0 e s v n xs) (hb : w.heap[b]? = some (.cells cs t fr)) (he : e ≠ t) : v.ownBlock ≠ some b := by
  intro hk
  rcases h.2 with ⟨rfl, _⟩ | ⟨g, cap, cur, rfl, _, hg, _⟩
  · simp [Value.ownBlock] at hk
  · simp [Value.ownBlock] at hk
    subst hk
    rw [hg] at hb
    injection hb with hb
    injection hb with _ hb _
    exact he hb
theorem ownsRow_slice {w : World} {e : TypeId} {s : Nat} {v : Value} {n : Nat} {xs : List Value} (h : w.ownsRow 0 e s v n xs) : ∃ a cap, v = .slice a n cap ∧ (0 < n → ∃ g, a = some ⟨g, 0, none⟩) := by
  rcases h.2 with ⟨rfl, rfl⟩ | ⟨g, cap, cur, rfl, _⟩
  · exact ⟨none, 0, rfl, fun h => absurd h (by decide)⟩
  · exact ⟨_, cap, rfl, fun _ => ⟨g, rfl⟩⟩
theorem ownsRow_cell {w : World} {e : TypeId} {s n cap g j : Nat} {xs : List Value} {u : Value} (h : w.ownsRow 0 e s (.slice (some ⟨g, 0, none⟩) n cap) n xs) (hu : xs[j]? = some u) : w.cell? ⟨g, j, none⟩ = some u := by
  have := h.cells rfl j u hu
  have hadd : (⟨g, 0, none⟩ : Addr).add j = ⟨g, j, none⟩ := by unfold Addr.add; split <;> simp_all
  rwa [hadd] at this
theorem ownsRow_free {w : World} {e : TypeId} {s n cap g : Nat} {xs : List Value} (h : w.ownsRow 0 e s (.slice (some ⟨g, 0, none⟩) n cap) n xs) (j : Nat) : w.frozen? ⟨g, j, none⟩ = false := by
  rcases h.2 with ⟨e, _⟩ | ⟨g', cap', cur, e, _, hg, _⟩
  · cases e
  · injection e with e1; injection e1 with e1; injection e1 with e1; subst e1
    exact frozen_of_row w _ j cur _ hg
theorem putCells_at {l : List (Int × ByteArray)} {k : Nat} {p : Int × ByteArray} (h : l[k]? = some p) : (putCells l)[k * 2]? = some (.int .i64 p.1) ∧ (putCells l)[k * 2 + 1]? = some (.string p.2) := by
  induction l generalizing k with
  | nil => simp at h
  | cons q l ih =>
    cases k with
    | zero => simp at h; subst h; exact ⟨rfl, rfl⟩
    | succ k =>
      have := ih (k := k) (by simpa using h)
      have e1 : (k + 1) * 2 = (k * 2) + 2 := by omega
      have e2 : (k + 1) * 2 + 1 = (k * 2 + 1) + 2 := by omega
      rw [e2, e1]
      unfold putCells at this ⊢
      rw [List.flatMap_cons]
      exact this
theorem putCells_len (l : List (Int × ByteArray)) : (putCells l).length = l.length * 2 := by
  unfold putCells; induction l with
  | nil => rfl
  | cons q l ih => rw [List.flatMap_cons, List.length_append, ih, List.length_cons]; simp; omega

/-- The document's drum at block b. -/
structure RefAt (w : World) (b : Nat) (sv wv : Value) (R : RS) : Prop where
  cell : RCell w b sv wv R.fuse R.gone
  s : w.ownsRow 0 9 1 sv R.S.length (strCells R.S)
  w : w.ownsRow 0 115 2 wv R.W.length (putCells R.W)
  few : R.S.length ≤ 4096
  fewW : R.W.length ≤ 1000000
  at' : ∀ q ∈ R.W, 0 ≤ q.1 ∧ q.1 < (R.S.length : Int)
def rfoot (b : Nat) (sv wv : Value) (k : Nat) : Prop := k = b ∨ sv.ownBlock = some k ∨ wv.ownBlock = some k
section
variable {w : World} {b : Nat} {sv wv : Value} {R : RS}
theorem RefAt.kept {F : Nat → Prop} {w' : World} (h : RefAt w b sv wv R) (hm : Mod F w w') (hF : ∀ k, rfoot b sv wv k → ¬ F k) : RefAt w' b sv wv R :=
  ⟨h.cell.kept hm (hF b (.inl rfl)), ownsRow_mod h.s hm (fun k hk => hF k (.inr (.inl hk))), ownsRow_mod h.w hm (fun k hk => hF k (.inr (.inr hk))), h.few, h.fewW, h.at'⟩
theorem RefAt.neS (h : RefAt w b sv wv R) : sv.ownBlock ≠ some b := ownsRow_ne h.s h.cell (by decide)
theorem RefAt.neW (h : RefAt w b sv wv R) : wv.ownBlock ≠ some b := ownsRow_ne h.w h.cell (by decide)
theorem RefAt.lt (h : RefAt w b sv wv R) (k : Nat) (hk : rfoot b sv wv k) : k < w.heap.size := by
  rcases hk with rfl | hk | hk
  · exact h.cell.lt
  · exact (h.s.lt k hk).2
  · exact (h.w.lt k hk).2
/-- The struct's own cells turned. -/
theorem RefAt.struct {w' : World} (h : RefAt w b sv wv R) (fuse : Int) (gone : Bool) (hc : RCell w' b sv wv fuse gone) (hm : Mod (fun k => k = b) w w') : RefAt w' b sv wv { R with fuse := fuse, gone := gone } :=
  ⟨hc, ownsRow_mod h.s hm (fun k hk e => h.neS (by rw [hk, e])), ownsRow_mod h.w hm (fun k hk e => h.neW (by rw [hk, e])), h.few, h.fewW, h.at'⟩
theorem RefAt.str (h : RefAt w b sv wv R) {g n cap : Nat} (hv : sv = .slice (some ⟨g, 0, none⟩) n cap) {k : Nat} {s : ByteArray} (hs : R.S[k]? = some s) : w.cell? ⟨g, k, none⟩ = some (.string s) := by
  subst hv
  have hn : n = R.S.length := by rcases h.s.2 with ⟨e, _⟩ | ⟨_, _, _, e, _⟩ <;> cases e; rfl
  have := h.s
  rw [hn] at this
  exact ownsRow_cell this (by unfold strCells; rw [List.getElem?_map, hs]; rfl)
theorem RefAt.put (h : RefAt w b sv wv R) {g n cap : Nat} (hv : wv = .slice (some ⟨g, 0, none⟩) n cap) {k : Nat} {q : Int × ByteArray} (hs : R.W[k]? = some q) : w.cell? ⟨g, k * 2, none⟩ = some (.int .i64 q.1) ∧ w.cell? ⟨g, k * 2 + 1, none⟩ = some (.string q.2) := by
  subst hv
  have hn : n = R.W.length := by rcases h.w.2 with ⟨e, _⟩ | ⟨_, _, _, e, _⟩ <;> cases e; rfl
  have := h.w
  rw [hn] at this
  exact ⟨ownsRow_cell this (putCells_at hs).1, ownsRow_cell this (putCells_at hs).2⟩
end
/-- A call that turned the document's drum to R'. -/
def RDid (w : World) (b : Nat) (sv wv : Value) (R' : RS) (w' : World) : Prop :=
  ∃ sv' wv', RefAt w' b sv' wv' R' ∧ (∀ k, rfoot b sv' wv' k → rfoot b sv wv k ∨ w.heap.size ≤ k) ∧ Mod (rfoot b sv wv) w w'
theorem RDid.same {w : World} {b : Nat} {sv wv : Value} {R : RS} (h : RefAt w b sv wv R) : RDid w b sv wv R w := ⟨sv, wv, h, fun _ h => .inl h, Mod.refl _ _⟩

def RS.burnt (R : RS) : Bool × RS := (R.gone || R.fuse == 0, { R with gone := R.gone || R.fuse == 0, fuse := if 0 < R.fuse then R.fuse - 1 else R.fuse })
set_option maxRecDepth 100000 in
set_option maxHeartbeats 4000000 in
theorem burnt_at (b : Nat) (sv wv : Value) (R : RS) (w : World) (h : RefAt w b sv wv R) (hf : R.fuse ≤ 9223372036854775807) :
    Calls Try.prog 76 #[.pointer (some ⟨b, 0, none⟩)] w fun e w' => e = .returned (.bool R.burnt.1) ∧ RefAt w' b sv wv R.burnt.2 ∧ Mod (fun k => k = b) w w' := by
  obtain ⟨c0, c1, c2, c3⟩ := h.cell.cells
  have f2 := h.cell.free 2
  have f3 := h.cell.free 3
  have H := Lib.hid h
  clear h c0 c1
  obtain ⟨S, Wl, fuse, gone⟩ := R
  simp only at c2 c3 hf
  by_cases h0 : fuse = 0
  · subst h0
    have e : (RS.mk S Wl 0 gone).burnt = (true, RS.mk S Wl 0 true) := by simp [RS.burnt]
    rw [e]
    clear e
    go_enter Try.func76, Try.ntmps76
    go_wp2
    go_ret
    have hm : Mod (fun k => k = b) w (w.setCell ⟨b, 3, none⟩ (.bool true)) := Mod.setCell _ _ _ rfl
    exact ⟨rfl, H.out.struct 0 true (H.out.cell.set3 true) hm, hm⟩
  · by_cases h1 : 0 < fuse
    · have e : (RS.mk S Wl fuse gone).burnt = (gone, RS.mk S Wl (fuse - 1) gone) := by simp [RS.burnt, h0, h1]
      rw [e]
      clear e
      go_enter Try.func76, Try.ntmps76
      go_wp2
      go_ret
      have hm : Mod (fun k => k = b) w (w.setCell ⟨b, 2, none⟩ (.int .i64 (fuse - 1))) := Mod.setCell _ _ _ rfl
      exact ⟨rfl, H.out.struct (fuse - 1) gone (H.out.cell.set2 _) hm, hm⟩
    · have e : (RS.mk S Wl fuse gone).burnt = (gone, RS.mk S Wl fuse gone) := by simp [RS.burnt, h0, h1]
      rw [e]
      clear e
      go_enter Try.func76, Try.ntmps76
      go_wp2
      go_ret
      exact ⟨rfl, H.out, Mod.refl _ _⟩
def RS.arm (R : RS) (n : Int) : Int × RS := if n < 0 then (2, R) else if R.gone then (9, R) else (0, { R with fuse := n })
set_option maxRecDepth 100000 in
set_option maxHeartbeats 4000000 in
theorem rarm_at (b : Nat) (sv wv : Value) (R : RS) (n : Int) (w : World) (h : RefAt w b sv wv R) :
    Calls Try.prog 65 #[.pointer (some ⟨b, 0, none⟩), .int .i64 n] w fun e w' => e = .returned (.int .i64 (R.arm n).1) ∧ RDid w b sv wv (R.arm n).2 w' := by
  obtain ⟨c0, c1, c2, c3⟩ := h.cell.cells
  have f2 := h.cell.free 2
  have H := Lib.hid h
  clear h c0 c1
  obtain ⟨S, Wl, fuse, gone⟩ := R
  simp only at c2 c3
  unfold RS.arm
  by_cases h0 : n < 0
  · rw [if_pos h0]
    go_enter Try.func65, Try.ntmps65
    go_wp2
    go_ret
    exact ⟨rfl, RDid.same H.out⟩
  · have h0' : ¬ n < 0 := h0
    rw [if_neg h0]
    cases gone with
    | true =>
      go_enter Try.func65, Try.ntmps65
      go_wp2
      go_ret
      exact ⟨rfl, RDid.same H.out⟩
    | false =>
      go_enter Try.func65, Try.ntmps65
      go_wp2
      go_ret
      have hm : Mod (fun k => k = b) w (w.setCell ⟨b, 2, none⟩ (.int .i64 n)) := Mod.setCell _ _ _ rfl
      exact ⟨rfl, sv, wv, H.out.struct n false (H.out.cell.set2 _) hm, fun k hk => .inl hk, hm.mono (fun _ e => .inl e)⟩
def RS.sureText (R : RS) (i : Int) : ByteArray := if 0 ≤ i ∧ i < (R.S.length : Int) then R.S.getD i.toNat ByteArray.empty else ByteArray.empty
set_option maxRecDepth 100000 in
set_option maxHeartbeats 4000000 in
theorem rsure_at (b : Nat) (sv wv : Value) (R : RS) (i : Int) (w : World) (h : RefAt w b sv wv R) :
    Calls Try.prog 68 #[.pointer (some ⟨b, 0, none⟩), .int .i64 i] w fun e w' => e = .returned (.string (R.sureText i)) ∧ w = w' := by
  obtain ⟨a, cap, hsv, ha⟩ := ownsRow_slice h.s
  have c0 := h.cell.cells.1
  rw [hsv] at c0
  unfold RS.sureText
  by_cases h0 : 0 ≤ i
  · by_cases h1 : i < (R.S.length : Int)
    · rw [if_pos ⟨h0, h1⟩]
      obtain ⟨j, rfl⟩ : ∃ j : Nat, i = (j : Int) := ⟨i.toNat, by omega⟩
      obtain ⟨g, rfl⟩ := ha (by omega)
      have hj : j < R.S.length := by omega
      obtain ⟨s, hs⟩ : ∃ s, s = R.S.getD j ByteArray.empty := ⟨_, rfl⟩
      have cs := h.str hsv (k := j) (s := s) (by rw [hs]; simp [List.getElem?_eq_getElem hj])
      rw [Int.toNat_natCast, ← hs]
      clear h hsv hs ha
      obtain ⟨n, hn⟩ : ∃ n, n = R.S.length := ⟨_, rfl⟩
      rw [← hn] at *
      clear hn
      go_enter Try.func68, Try.ntmps68
      go_wp2
      go_ret
      exact ⟨rfl, rfl⟩
    · rw [if_neg (by omega)]
      have h1' : (R.S.length : Int) ≤ i := by omega
      obtain ⟨n, hn⟩ : ∃ n, n = R.S.length := ⟨_, rfl⟩
      rw [← hn] at *
      clear hn h hsv ha
      go_enter Try.func68, Try.ntmps68
      go_wp2
      go_ret
      exact ⟨rfl, rfl⟩
  · rw [if_neg (by omega)]
    have h0' : i < 0 := by omega
    clear h hsv ha
    go_enter Try.func68, Try.ntmps68
    go_wp2
    go_ret
    exact ⟨rfl, rfl⟩
/-- What a sector shows: the last of what was written to it. -/
def showsN (l : List (Int × ByteArray)) (i : Int) (s : ByteArray) : ByteArray := l.foldl (fun s q => if q.1 = i then q.2 else s) s
def RS.shows (R : RS) (i : Nat) : ByteArray := showsN R.W (i : Int) (R.S.getD i ByteArray.empty)
set_option maxRecDepth 100000 in
set_option maxHeartbeats 4000000 in
theorem rshows_at (b : Nat) (sv wv : Value) (R : RS) (j : Nat) (w : World) (h : RefAt w b sv wv R) (hj : j < R.S.length) :
    Calls Try.prog 77 #[.pointer (some ⟨b, 0, none⟩), .int .i64 (j : Int)] w fun e w' => e = .returned (.string (R.shows j)) ∧ w = w' := by
  obtain ⟨a, cap, hsv, ha⟩ := ownsRow_slice h.s
  obtain ⟨a', cap', hwv, ha'⟩ := ownsRow_slice h.w
  have c0 := h.cell.cells.1
  have c1 := h.cell.cells.2.1
  rw [hsv] at c0
  rw [hwv] at c1
  obtain ⟨g, rfl⟩ := ha (by omega)
  obtain ⟨s, hs⟩ : ∃ s, s = R.S.getD j ByteArray.empty := ⟨_, rfl⟩
  have cs := h.str hsv (k := j) (s := s) (by rw [hs]; simp [List.getElem?_eq_getElem hj])
  have HW := Lib.hid hwv
  have H := Lib.hid h
  have HA := Lib.hid ha'
  unfold RS.shows
  rw [← hs]
  have hfw := h.fewW
  clear h hsv hwv hs ha ha'
  obtain ⟨n, hn⟩ : ∃ n, n = R.S.length := ⟨_, rfl⟩
  rw [← hn] at c0 hj
  clear hn
  obtain ⟨m, hm⟩ : ∃ m, m = R.W.length := ⟨_, rfl⟩
  rw [← hm] at c1 hfw
  have HM := Lib.hid hm
  clear hm
  go_enter Try.func77, Try.ntmps77
  go_wp2_with fail
  go_loop [5, 6] (fun t i => ∃ k : Nat, k ≤ m ∧ i = .int .i64 (k : Int) ∧ t = .string (showsN (R.W.take k) (j : Int) s)) (fun _ i => m - (intOf i).toNat)
  case atStart => exact ⟨0, Nat.zero_le _, rfl, rfl⟩
  case round =>
    obtain ⟨k, hk, rfl, rfl⟩ := hrel
    by_cases hlt : k < m
    · obtain ⟨g', rfl⟩ := HA.out (by have := HM.out; omega)
      obtain ⟨⟨qi, qs⟩, hq⟩ : ∃ q, R.W[k]? = some q := ⟨_, List.getElem?_eq_getElem (by have := HM.out; omega)⟩
      obtain ⟨cq1, cq2⟩ := H.out.put HW.out hq
      simp only at cq1 cq2
      have hst : showsN (R.W.take (k + 1)) (j : Int) s = if qi = (j : Int) then qs else showsN (R.W.take k) (j : Int) s := by
        unfold showsN
        rw [List.take_add_one, hq]; simp
      have HST := Lib.hid hst
      clear hst hq
      by_cases he : qi = (j : Int)
      · subst he
        go_wp2_with fail
        go_round
        case rel => exact ⟨k + 1, by omega, by go_num, by rw [HST.out, if_pos rfl]⟩
        case measure => simp [intOf]; omega
      · have he' : (qi == (j : Int)) = false := by simpa using he
        go_wp2_with fail
        go_round
        case rel => exact ⟨k + 1, by omega, by go_num, by rw [HST.out, if_neg he]⟩
        case measure => simp [intOf]; omega
    · have hkm : k = m := by omega
      have hall : R.W.take k = R.W := List.take_of_length_le (by have := HM.out; omega)
      have HALL := Lib.hid hall
      clear hall hkm
      go_wp2_with fail
      go_ret
      exact ⟨by rw [HALL.out]; rfl, rfl⟩
def RS.read (R : RS) (i : Int) : ByteArray × Int := if R.gone then (ByteArray.empty, 9) else if 0 ≤ i ∧ i < (R.S.length : Int) then (R.shows i.toNat, 0) else (ByteArray.empty, 6)
set_option maxRecDepth 100000 in
set_option maxHeartbeats 4000000 in
theorem rread_at (b : Nat) (sv wv : Value) (R : RS) (i : Int) (w : World) (h : RefAt w b sv wv R) :
    Calls Try.prog 67 #[.pointer (some ⟨b, 0, none⟩), .int .i64 i] w fun e w' => e = .returned (.tuple #[.string (R.read i).1, .int .i64 (R.read i).2]) ∧ w = w' := by
  obtain ⟨a, cap, hsv, ha⟩ := ownsRow_slice h.s
  obtain ⟨c0, _, _, c3⟩ := h.cell.cells
  rw [hsv] at c0
  unfold RS.read
  cases hg : R.gone with
  | true =>
    rw [hg] at c3
    rw [if_pos rfl]
    clear h hsv ha hg
    go_enter Try.func67, Try.ntmps67
    go_wp2
    go_ret2
    exact ⟨rfl, rfl⟩
  | false =>
    rw [hg] at c3
    rw [if_neg (by simp)]
    clear hg
    by_cases h0 : 0 ≤ i
    · by_cases h1 : i < (R.S.length : Int)
      · rw [if_pos ⟨h0, h1⟩]
        obtain ⟨j, rfl⟩ : ∃ j : Nat, i = (j : Int) := ⟨i.toNat, by omega⟩
        have hs := rshows_at b sv wv R j w h (by omega)
        rw [Int.toNat_natCast]
        generalize R.shows j = s at *
        have HS := Lib.hid hs
        clear h hsv hs ha
        obtain ⟨n, hn⟩ : ∃ n, n = R.S.length := ⟨_, rfl⟩
        rw [← hn] at c0 h1
        clear hn
        go_enter Try.func67, Try.ntmps67
        go_wp2_with fail
        refine HS.out.mono ?_
        rintro e w' ⟨rfl, rfl⟩
        go_wp2
        go_ret2
        exact ⟨rfl, rfl⟩
      · rw [if_neg (by omega)]
        have h1' : (R.S.length : Int) ≤ i := by omega
        obtain ⟨n, hn⟩ : ∃ n, n = R.S.length := ⟨_, rfl⟩
        rw [← hn] at c0 h1'
        clear hn h hsv ha h1
        go_enter Try.func67, Try.ntmps67
        go_wp2
        go_ret2
        exact ⟨rfl, rfl⟩
    · rw [if_neg (by omega)]
      have h0' : i < 0 := by omega
      clear h hsv ha
      go_enter Try.func67, Try.ntmps67
      go_wp2
      go_ret2
      exact ⟨rfl, rfl⟩
end Go.Proofs.Ytjnbdikhajnciaa.Drum
