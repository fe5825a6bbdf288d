/- Texts of one proof, joined: Jb, Ja, Jc, Jd. -/
import Derived.Test.YteljihpheffjnaaDoorZH
import Derived.Test.YteljihpheffjnaaDoorZR
import Derived.Test.YteljihpheffjnaaDoorZE
import Derived.Deep.Slices
import Derived.Deep.Fields
import Derived.ChangeSame
set_option linter.unusedSimpArgs false
set_option linter.unusedVariables false
/- The law's begins; a list copied, with one text more. -/
namespace Go.Proofs.YteljihpheffjnaaDoor.Tape
open Go.RowKit Go.Proofs.YteljihpheffjnaaDoor.Ord Go.Proofs.YteljihpheffjnaaDoorW.PrintWords Go.Proofs.YteljihpheffjnaaDoor.Base Go.Proofs.YteljihpheffjnaaDoor.Drum
set_option linter.unusedVariables false
set_option linter.unusedSimpArgs false
attribute [local irreducible] OpGives

set_option maxHeartbeats 4000000 in
theorem begins_at (a b : Option Addr) (n m ca cb : Nat) (la lb r : List (List UInt8)) (w : World) (ha : StrsAt w a n la) (hb : StrsAt w b m lb) (hp : la = lb ++ r) :
    Calls Tryd.prog 27 #[.slice a n ca, .slice b m cb] w fun e w' => e = .returned (.bool true) ∧ ∃ k, w' = w.drewN k := by
  obtain ⟨hla, hma, hca⟩ := ha
  obtain ⟨hlb, hmb, hcb⟩ := hb
  have hmn : m ≤ n := by rw [← hla, ← hlb, hp, List.length_append]; omega
  have hdm : decide (n < m) = false := decide_eq_false (by omega)
  have HLA := Lib.hid hla
  have HLB := Lib.hid hlb
  have HCA := Lib.hid hca
  have HCB := Lib.hid hcb
  have HP := Lib.hid hp
  clear hla hlb hca hcb hp
  go_enter Tryd.func27, Tryd.ntmps27
  go_wp2_with fail
  go_loopw [5] (fun i wr => ∃ k q : Nat, k ≤ m ∧ i = .int .i64 (k : Int) ∧ wr = w.drewN q) (fun i _ => m - (intOf i).toNat)
  case atStart => exact ⟨0, 0, Nat.zero_le _, rfl, rfl⟩
  case round =>
    obtain ⟨k, q, hk, rfl, rfl⟩ := hrel
    by_cases hlt : k < m
    · obtain ⟨ad, rfl, hcells⟩ := HCA.out (by omega)
      obtain ⟨bd, rfl, hcellsb⟩ := HCB.out (by omega)
      obtain ⟨x, hx⟩ : ∃ z, lb[k]? = some z := ⟨_, List.getElem?_eq_getElem (by have := HLB.out; omega)⟩
      have hxa : la[k]? = some x := by rw [HP.out, List.getElem?_append_left (by have := HLB.out; omega)]; exact hx
      have c1 : ∀ q, (w.drewN q).cell? (ad.add k) = some (.string ⟨x.toArray⟩) := fun q => hcells k x hxa
      have c2 : ∀ q, (w.drewN q).cell? (bd.add k) = some (.string ⟨x.toArray⟩) := fun q => hcellsb k x hx
      clear hcells hcellsb hx hxa
      have hdk : decide (k < m) = true := decide_eq_true hlt
      have hkn : k < n := by omega
      go_wp2_with fail
      go_quiet (fail)
      go_wp2_with fail
      go_roundw
      case rel => exact ⟨k + 1, _, hlt, by go_num, rfl⟩
      case measure =>
        have hm : m - (k + 1) < m - k := by omega
        have ht : ((k : Int) + 1).toNat = k + 1 := by omega
        simp only [intOf, Int.toNat_natCast, ht]
        exact hm
    · have hdk : decide (k < m) = false := decide_eq_false hlt
      go_wp2_with fail
      go_ret
      exact ⟨rfl, q, rfl⟩
/-- A row of texts that lies from B on. -/
def RowS (B : Nat) (W : World) (v : Value) (l : List (List UInt8)) : Prop := W.ownsRow B 9 1 v l.length (strs l)
theorem build_none (t E : TypeId) (i : TypeInfo) (ht : Tryd.prog.underlying t = some (.slice E)) (hi : Tryd.prog.info? E = some i) (w : World) : (Instr.buildSlice t 0 #[]).run Tryd.prog w = .ok (.slice (some ⟨w.heap.size, 0, none⟩) 0 0) (w.alloc (.cells #[] E)) := Drum.build_none t E i ht hi w
theorem rows_append {B : Nat} {W : World} {v : Value} {l : List (List UInt8)} (h : RowS B W v l) (hB : B ≤ W.heap.size) (x : Value) (us : List (List UInt8)) (hx : (x = .slice none 0 0 ∧ us = []) ∨ ∃ ad c, x = .slice (some ad) us.length c ∧ ∀ j s, us[j]? = some s → W.cell? (ad.add j) = some (.string ⟨s.toArray⟩)) (hn : l.length + us.length ≤ 1000000) :
    ∃ v' W', (Builtin.append_ #[28, 28] 28 #[v, x]).run Tryd.prog W = .ok v' W' ∧ RowS B W' v' (l ++ us) ∧ Below B W W' ∧ (∀ k o, W.heap[k]? = some o → v.ownBlock ≠ some k → W'.heap[k]? = some o) := by
  obtain ⟨i0, hi0, hz0, hz1, hz2⟩ := info_parts info_string
  rcases hx with ⟨rfl, rfl⟩ | ⟨ad, c, rfl, hc⟩
  · refine ⟨v, W, run_append_owned_none W B 28 28 9 i0 1 Tryd.underlying28 hi0 v l.length (strs l) h, by rw [List.append_nil]; exact h, Below.refl _ _, fun k o h _ => h⟩
  · obtain ⟨v', W', hr, ho, hg, _, hat⟩ := run_append_own_at (P := Tryd.prog) W B 28 28 9 i0 _ 1 16 Tryd.underlying28 hi0 hz0 hz1 hz2 rfl (by decide) v l.length (strs l) h ad us.length c (strs us) (by rw [strs_len]; omega)
      (fun j u hu => by
        unfold strs at hu
        rw [List.getElem?_map] at hu
        cases hj : us[j]? with
        | none => rw [hj] at hu; cases hu
        | some s => rw [hj, Option.map_some] at hu; rw [← Option.some.inj hu]; exact hc j s hj)
      (fun u hu => by
        obtain ⟨s, _, rfl⟩ := List.mem_map.1 hu; rfl) (by unfold maxLen; omega) (by omega) hB
    refine ⟨v', W', hr, ?_, (Below.refl _ _).grown hg hB (fun k hk => (World.ownsRow.lt h k hk).1), fun k o hk hne => ?_⟩
    · show W'.ownsRow B 9 1 v' (l ++ us).length (strs (l ++ us))
      rw [List.length_append, show strs (l ++ us) = strs l ++ strs us by simp [strs]]; exact ho
    · exact (hg.block k (Array.getElem?_eq_some_iff.1 hk).1 (fun e => hne e.symm)).trans hk
theorem lit_none (W : World) (i : TypeInfo) (hi : Tryd.prog.info? 9 = some i) (parts : Array (Nat × Value)) (hp : parts = #[]) : (Instr.buildSlice 28 0 parts).run Tryd.prog W = .ok (.slice (some ⟨W.heap.size, 0, none⟩) 0 0) (W.alloc (.cells #[] 9)) := by
  subst hp; exact build_none 28 9 i Tryd.underlying28 hi W
theorem src_of {W : World} {va : Option Addr} {vc : Nat} {H : List (List UInt8)} (h : (textsT (.slice va H.length vc) H).P W) : ((Value.slice va H.length vc) = .slice none 0 0 ∧ H = []) ∨ ∃ ad c, (Value.slice va H.length vc) = .slice (some ad) H.length c ∧ ∀ j s, H[j]? = some s → W.cell? (ad.add j) = some (.string ⟨s.toArray⟩) := by
  rcases h.2 with ⟨e, h0⟩ | ⟨g, cp, cur, e, _⟩
  · exact .inl ⟨e, List.eq_nil_of_length_eq_zero h0⟩
  · injection e with e1 e2 e3
    subst e1
    refine .inr ⟨_, _, rfl, fun j s hj => ?_⟩
    have hc := h.cells rfl
    exact hc j _ (by unfold strs; rw [List.getElem?_map, hj]; rfl)
theorem one_cell {W : World} {kb : Nat} {x : ByteArray} (h : W.heap[kb]? = some (.cells #[.string x] 9 (0, 0))) : ∀ j s, [x.data.toList][j]? = some s → W.cell? ((⟨kb, 0, none⟩ : Addr).add j) = some (.string ⟨s.toArray⟩) := fun j s hj => by
  match j, hj with
  | 0, hj => simp at hj; subst hj; rw [str_data]; simp [Addr.add, World.cell?, h]
  | j + 1, hj => simp at hj
theorem lit_text (x : ByteArray) (W : World) (parts : Array (Nat × Value)) (hp : parts.toList = [(0, .string x)]) : (Instr.buildSlice 28 1 parts).run Tryd.prog W = .ok (.slice (some ⟨W.heap.size, 0, none⟩) 1 1) (W.alloc (.cells #[.string x] 9)) := by
  have h := run_lit (P := Tryd.prog) W 28 9 1 1 [.string x] parts _ 16 Tryd.underlying28 info_string (by rw [hp]; rfl) (by decide) (by decide) rfl (by decide) (fun v hv => by rw [List.mem_singleton.1 hv]; rfl)
  simpa [Value.cells] using h
/-- While the list is copied: what the operations that are over gave. -/
def SHad (B : Nat) (W0 : World) (H : List (List UInt8)) (x : ByteArray) (L : Nat → Bool) (g : Nat → Value) (W : World) : Prop :=
  Below B W0 W ∧ B ≤ W.heap.size ∧ (L 0 = true → L 2 = false → RowS B W (g 0) [] ∧ ∃ gb, g 0 = .slice (some ⟨gb, 0, none⟩) 0 0 ∧ W.heap[gb]? = some (.cells #[] 9 (0, 0))) ∧ (L 2 = true → L 9 = false → RowS B W (g 2) H) ∧
    (L 8 = true → L 9 = false → ∃ kb, g 8 = .slice (some ⟨kb, 0, none⟩) 1 1 ∧ W.heap[kb]? = some (.cells #[.string x] 9 (0, 0))) ∧ (L 9 = true → RowS B W (g 9) (H ++ [x.data.toList]))
theorem SHad.keep {B : Nat} {W0 W : World} {H : List (List UInt8)} {x : ByteArray} {L : Nat → Bool} {g : Nat → Value} (h : SHad B W0 H x L g W) (i : Nat) (v : Value) (h0 : i ≠ 0) (h2 : i ≠ 2) (h8 : i ≠ 8) (h9 : i ≠ 9) :
    SHad B W0 H x (fun k => if k = i then true else L k) (upd g i v) W := by
  obtain ⟨a, b, c, d, e, f⟩ := h
  refine ⟨a, b, fun p q => ?_, fun p q => ?_, fun p q => ?_, fun p => ?_⟩
  · simp only [if_neg (Ne.symm h0)] at p; simp only [if_neg (Ne.symm h2)] at q; rw [upd_other _ _ (Ne.symm h0)]; exact c p q
  · simp only [if_neg (Ne.symm h2)] at p; simp only [if_neg (Ne.symm h9)] at q; rw [upd_other _ _ (Ne.symm h2)]; exact d p q
  · simp only [if_neg (Ne.symm h8)] at p; simp only [if_neg (Ne.symm h9)] at q; rw [upd_other _ _ (Ne.symm h8)]; exact e p q
  · simp only [if_neg (Ne.symm h9)] at p; rw [upd_other _ _ (Ne.symm h9)]; exact f p
theorem RowS.new {B : Nat} {W W' : World} {v : Value} {l : List (List UInt8)} (h : RowS B W v l) (hn : NewMem W W') : RowS B W' v l := ownsRow_mod h (Mod.of_below (F := fun _ => False) hn) (fun _ _ => id)
theorem L_off {ops : Array Oper} {L : Nat → Bool} (hCl : ∀ k j, L k = true → waits .any ops k j = true → L j = true) (k j : Nat) (hj : L j = false) (hw : waits .any ops k j = true) : L k = false := by
  cases h : L k with
  | false => rfl
  | true => have := hCl k j h hw; rw [hj] at this; cases this
theorem had_zero {B : Nat} {W0 W : World} {H : List (List UInt8)} {x : ByteArray} {L : Nat → Bool} {g : Nat → Value} {ops : Array Oper} (hL : L 0 = false) (hCl : ∀ k j, L k = true → waits .any ops k j = true → L j = true) (h : SHad B W0 H x L g W) (h20 : waits .any ops 2 0 = true) (h92 : waits .any ops 9 2 = true) :
    SHad B W0 H x (fun k => if k = 0 then true else L k) (upd g 0 (.slice (some ⟨W.heap.size, 0, none⟩) 0 0)) (W.alloc (.cells #[] 9)) := by
  obtain ⟨a, b, c, d, e, f⟩ := h
  have f2 := L_off hCl 2 0 hL h20
  have f9 := L_off hCl 9 2 f2 h92
  have hn : NewMem W (W.alloc (.cells #[] 9)) := NewMem.alloc _ _
  refine ⟨a.trans (hn.mono b), Nat.le_trans b hn.size, fun _ _ => ?_, fun p q => ?_, fun p q => ?_, fun p => ?_⟩
  · rw [upd_same]
    exact ⟨World.ownsRow_made (e := 9) (size := 1) W #[] 0 b (by decide) (by simp), W.heap.size, rfl, heap_alloc_last _ _⟩
  · simp [f2] at p
  · simp only [if_neg (show (8 : Nat) ≠ 0 by decide)] at p
    rw [upd_other _ _ (by decide)]
    obtain ⟨kb, e1, e2⟩ := e p f9
    exact ⟨kb, e1, (hn.block _ (Array.getElem?_eq_some_iff.1 e2).1).trans e2⟩
  · simp [f9] at p
theorem had_eight {B : Nat} {W0 W : World} {H : List (List UInt8)} {x : ByteArray} {L : Nat → Bool} {g : Nat → Value} {ops : Array Oper} (hL : L 8 = false) (hCl : ∀ k j, L k = true → waits .any ops k j = true → L j = true) (h : SHad B W0 H x L g W) (h98 : waits .any ops 9 8 = true) :
    SHad B W0 H x (fun k => if k = 8 then true else L k) (upd g 8 (.slice (some ⟨W.heap.size, 0, none⟩) 1 1)) (W.alloc (.cells #[.string x] 9)) := by
  obtain ⟨a, b, c, d, e, f⟩ := h
  have f9 := L_off hCl 9 8 hL h98
  have hn : NewMem W (W.alloc (.cells #[.string x] 9)) := NewMem.alloc _ _
  refine ⟨a.trans (hn.mono b), Nat.le_trans b hn.size, fun p q => ?_, fun p q => ?_, fun _ _ => ?_, fun p => ?_⟩
  · simp only [if_neg (show (0 : Nat) ≠ 8 by decide)] at p; simp only [if_neg (show (2 : Nat) ≠ 8 by decide)] at q
    rw [upd_other _ _ (by decide)]
    obtain ⟨c1, gb, c2, c3⟩ := c p q
    exact ⟨c1.new hn, gb, c2, (hn.block _ (Array.getElem?_eq_some_iff.1 c3).1).trans c3⟩
  · simp only [if_neg (show (2 : Nat) ≠ 8 by decide)] at p
    rw [upd_other _ _ (by decide)]
    exact (d p f9).new hn
  · rw [upd_same]; exact ⟨_, rfl, heap_alloc_last _ _⟩
  · simp [f9] at p
theorem had_two {B : Nat} {W0 W W' : World} {H : List (List UInt8)} {x : ByteArray} {L : Nat → Bool} {g : Nat → Value} {v' : Value} {ops : Array Oper} (hL : L 2 = false) (hCl : ∀ k j, L k = true → waits .any ops k j = true → L j = true) (hWt : L 0 = true) (h : SHad B W0 H x L g W) (h92 : waits .any ops 9 2 = true)
    (hrow : RowS B W' v' H) (hb : Below B W W') (hkeep : ∀ k o, W.heap[k]? = some o → (g 0).ownBlock ≠ some k → W'.heap[k]? = some o) : SHad B W0 H x (fun k => if k = 2 then true else L k) (upd g 2 v') W' := by
  obtain ⟨a, b, c, d, e, f⟩ := h
  have f9 := L_off hCl 9 2 hL h92
  refine ⟨a.trans hb, Nat.le_trans b hb.size, fun p q => ?_, fun _ _ => ?_, fun p q => ?_, fun p => ?_⟩
  · simp at q
  · rw [upd_same]; exact hrow
  · simp only [if_neg (show (8 : Nat) ≠ 2 by decide)] at p
    rw [upd_other _ _ (by decide)]
    obtain ⟨kb, e1, e2⟩ := e p f9
    obtain ⟨_, gb, c2, c3⟩ := c hWt hL
    refine ⟨kb, e1, hkeep kb _ e2 fun he => ?_⟩
    rw [c2] at he
    have : gb = kb := by simpa [Value.ownBlock] using he
    subst this
    rw [c3] at e2; cases e2
  · simp [f9] at p
theorem had_nine {B : Nat} {W0 W W' : World} {H : List (List UInt8)} {x : ByteArray} {L : Nat → Bool} {g : Nat → Value} {v' : Value} (hL : L 9 = false) (hW2 : L 2 = true) (h : SHad B W0 H x L g W) (hrow : RowS B W' v' (H ++ [x.data.toList])) (hb : Below B W W') :
    SHad B W0 H x (fun k => if k = 9 then true else L k) (upd g 9 v') W' := by
  obtain ⟨a, b, c, d, e, f⟩ := h
  refine ⟨a.trans hb, Nat.le_trans b hb.size, fun p q => ?_, fun p q => ?_, fun p q => ?_, fun _ => ?_⟩
  · simp [hW2] at q
  · simp at q
  · simp at q
  · rw [upd_same]; exact hrow
end Go.Proofs.YteljihpheffjnaaDoor.Tape
/- The tape's calls that come in: few, opened. -/
namespace Go.Proofs.YteljihpheffjnaaDoor.Drum
open Go.RowKit Go.Proofs.YteljihpheffjnaaDoor.Ord Go.Proofs.YteljihpheffjnaaDoorW.PrintWords Go.Proofs.YteljihpheffjnaaDoor.Base
set_option linter.unusedVariables false
set_option linter.unusedSimpArgs false
attribute [local irreducible] OpGives

/-- A call, in plain terms. -/
structure ActV where
  kind : Int
  i : Int
  s : ByteArray
  ka : Option Addr
  kn : Nat
  kc : Nat
  zs : List Int
def ActV.cells (a : ActV) : Array Value := #[.int .i64 a.kind, .int .i64 a.i, .string a.s, .slice a.ka a.kn a.kc]
/-- What a call is allowed to be, in memory. -/
structure ActOk (B : Nat) (w : World) (a : ActV) : Prop where
  i : a.i ≤ 9223372036854775807
  s : a.s.size ≤ 1000000
  ints : IntsAt w a.ka a.kn a.zs
  old : 0 < a.kn → ∀ ad, a.ka = some ad → ad.block < B
theorem IntsAt.later {B : Nat} {w W : World} {l : List Thing} {a : Option Addr} {n : Nat} {zs : List Int} (h : IntsAt w a n zs) (ho : 0 < n → ∀ ad, a = some ad → ad.block < B) (hs : Sep B w W l) : IntsAt W a n zs := by
  obtain ⟨h1, h2, h3⟩ := h
  refine ⟨h1, h2, fun h0 => ?_⟩
  obtain ⟨ad, e, hc⟩ := h3 h0
  refine ⟨ad, e, fun j z hz => ?_⟩
  have hb : (ad.add j).block = ad.block := by unfold Addr.add; split <;> rfl
  exact (hs.below.cell (p := ad.add j) (by rw [hb]; exact ho h0 ad e)).trans (hc j z hz)
/-- The numbers of a slice that came in. -/
def IntsIn (w : World) (a : Option Addr) (n : Nat) (zs : List Int) : Prop :=
  zs.length = n ∧ (0 < n → ∃ ad : Addr, a = some ad ∧ ∀ j z, zs[j]? = some z → w.cell? (ad.add j) = some (.int .i64 z))
/-- A call that came in. -/
structure ActIn (B : Nat) (w : World) (a : ActV) : Prop where
  i : a.i ≤ 9223372036854775807
  s : a.s.size ≤ maxLen
  n : a.kn ≤ maxLen
  ints : IntsIn w a.ka a.kn a.zs
  old : 0 < a.kn → ∀ ad, a.ka = some ad → ad.block < B
/-- Calls that came in. -/
structure ActsIn (B : Nat) (w : World) (a : Option Addr) (n : Nat) (acts : List ActV) : Prop where
  len : acts.length = n
  max : n ≤ maxLen
  all : ∀ v ∈ acts, ActIn B w v
  cells : 0 < n → ∃ ad : Addr, a = some ad ∧ ad.block < B ∧ ∀ j v, acts[j]? = some v → w.cell? (ad.add (j * 4)) = some (.int .i64 v.kind) ∧ w.cell? (ad.add (j * 4 + 1)) = some (.int .i64 v.i) ∧ w.cell? (ad.add (j * 4 + 2)) = some (.string v.s) ∧ w.cell? (ad.add (j * 4 + 3)) = some (.slice v.ka v.kn v.kc)
def ActV.small (a : ActV) : Bool := decide (a.s.size ≤ 600) && decide (a.kn ≤ 100)
def fewB (acts : List ActV) : Bool := decide (acts.length ≤ 100) && acts.all ActV.small
theorem ActIn.ok {B : Nat} {w : World} {a : ActV} (h : ActIn B w a) (hs : a.small = true) : ActOk B w a := by
  unfold ActV.small at hs
  simp only [Bool.and_eq_true, decide_eq_true_eq] at hs
  exact ⟨h.i, by omega, ⟨h.ints.1, by omega, h.ints.2⟩, h.old⟩
theorem add_next (ad : Addr) (m j : Nat) : ad.add (m + (j + 1)) = ⟨(ad.add m).block, (ad.add m).off + (j + 1), none⟩ := by
  unfold Addr.add
  by_cases h : m = 0
  · subst h; simp
  · simp [h]; omega
theorem add_block (ad : Addr) (j : Nat) : (ad.add j).block = ad.block := by unfold Addr.add; split <;> rfl
set_option maxRecDepth 100000 in
set_option maxHeartbeats 8000000 in
theorem few_at (B : Nat) (a : Option Addr) (n cap : Nat) (acts : List ActV) (w : World) (h : ActsIn B w a n acts) :
    Calls Tryd.prog 20 #[.slice a n cap] w fun e w' => e = .returned (.bool (fewB acts)) ∧ w = w' := by
  have hmax := h.max
  unfold maxLen at hmax
  have H := Lib.hid h
  obtain ⟨t, ht⟩ : ∃ t, t = fewB acts := ⟨_, rfl⟩
  rw [← ht]
  have HT := Lib.hid ht
  clear h ht
  by_cases hn : 100 < n
  · have hn' : (n : Int) > 100 := by omega
    have hf : t = false := by rw [HT.out]; unfold fewB; rw [decide_eq_false (by have := H.out.len; omega)]; rfl
    subst hf
    go_enter Tryd.func20, Tryd.ntmps20
    go_wp2
    go_ret
    exact ⟨rfl, rfl⟩
  · have hn' : ¬ (n : Int) > 100 := by omega
    go_enter Tryd.func20, Tryd.ntmps20
    go_wp2_with fail
    go_loop [3] (fun i => ∃ k : Nat, k ≤ n ∧ i = .int .i64 (k : Int) ∧ Hid ((acts.take k).all ActV.small = true)) (fun i => n - (intOf i).toNat)
    case atStart => exact ⟨0, Nat.zero_le _, rfl, Lib.hid rfl⟩
    case round =>
      obtain ⟨k, hk, rfl, hall⟩ := hrel
      by_cases hlt : k < n
      · obtain ⟨ad, rfl, hb, hcs⟩ := H.out.cells (by omega)
        obtain ⟨v, hv⟩ : ∃ v, acts[k]? = some v := ⟨_, List.getElem?_eq_getElem (by have := H.out.len; omega)⟩
        obtain ⟨c0, c1, c2, c3⟩ := hcs k v hv
        rw [add_next] at c1 c2 c3
        have hvin := H.out.all v (List.mem_of_getElem? hv)
        have hsn : (acts.take (k + 1)).all ActV.small = ((acts.take k).all ActV.small && v.small) := by rw [List.take_add_one, hv]; simp
        have hs1 := hvin.s
        have hs2 := hvin.n
        unfold maxLen at hs1 hs2
        have HV := Lib.hid hv
        have HSN := Lib.hid hsn
        clear hcs hvin hsn hv
        by_cases g1 : 600 < v.s.size
        · have g1' : (v.s.size : Int) > 600 := by omega
          have hf : t = false := by
            rw [HT.out]; unfold fewB
            have hm : v ∈ acts := List.mem_of_getElem? HV.out
            have : acts.all ActV.small = false := by
              rw [List.all_eq_false]; exact ⟨v, hm, by unfold ActV.small; rw [decide_eq_false (by omega)]; simp⟩
            rw [this, Bool.and_false]
          subst hf
          go_wp2_with fail
          go_ret
          exact ⟨rfl, rfl⟩
        · have g1' : ¬ (v.s.size : Int) > 600 := by omega
          by_cases g2 : 100 < v.kn
          · have g2' : (v.kn : Int) > 100 := by omega
            have hf : t = false := by
              rw [HT.out]; unfold fewB
              have hm : v ∈ acts := List.mem_of_getElem? HV.out
              have : acts.all ActV.small = false := by
                rw [List.all_eq_false]; exact ⟨v, hm, by unfold ActV.small; rw [decide_eq_false (show ¬ v.kn ≤ 100 by omega)]; simp⟩
              rw [this, Bool.and_false]
            subst hf
            go_wp2_with fail
            go_ret
            exact ⟨rfl, rfl⟩
          · have g2' : ¬ (v.kn : Int) > 100 := by omega
            have hsm : (acts.take (k + 1)).all ActV.small = true := by
              rw [HSN.out, hall.out]; unfold ActV.small; rw [decide_eq_true (by omega), decide_eq_true (by omega)]; rfl
            have HSM := Lib.hid hsm
            clear hsm
            go_wp2_with fail
            go_round
            case rel => exact ⟨k + 1, by omega, by go_num, HSM⟩
            case measure => simp [intOf]; omega
      · have hf : t = true := by
          rw [HT.out]; unfold fewB
          have := hall.out
          rw [List.take_of_length_le (by have := H.out.len; omega)] at this
          rw [this, decide_eq_true (by have := H.out.len; omega)]; rfl
        subst hf
        go_wp2_with fail
        go_ret
        exact ⟨rfl, rfl⟩
open Go.ChangeShapes Go.WideShapes Go.Deep
set_option linter.unusedVariables false
set_option linter.unusedSimpArgs false

section
variable {H : Type} {enc : TypeId × Value → H} {P : Program} {w : World} {base : Nat} {spare : Nat → Bool} {held : Bool}
theorem open_slice_fields {t e : TypeId} {fs : Array Field} {fuel : Nat} {cs : List Value} {x : DataW H × List MemPlace} (ht : P.underlying t = some (.slice e)) (he : P.underlying e = some (.struct fs))
    (hone : oneCellFields P fs = true) (hC : P.cellsOf e = fs.size) (h : DataW.trod enc P w base spare held fuel t cs = some x) :
    (cs = [.slice none 0 0] ∧ x = (.nil, [])) ∨
    ∃ (a : Addr) (len cap m : Nat) (D : Nat → DataW H) (Pl : Nat → List MemPlace), cs = [.slice (some a) len cap] ∧ base ≤ a.block ∧ len ≤ cap ∧ cap ≤ maxLen ∧ m = (if spare a.block then cap else len) ∧
      x = (.slice ((List.range len).map D) ((List.range (m - len)).map fun j => D (len + j)), MemPlace.row a (m * fs.size) ++ (List.range m).flatMap Pl) ∧
      ∀ i, i < m → ∃ (ys : List (DataW H × List MemPlace)) (n : Nat), D i = .agg (ys.map (·.1)) ∧ Pl i = ys.flatMap (·.2) ∧ ys.length = fs.size ∧
        ∀ (j : Nat) (f : Field), fs[j]? = some f → ∃ (v : Value) (y : DataW H × List MemPlace), w.cell? (a.add (i * fs.size + j)) = some v ∧ ys[j]? = some y ∧ DataW.trod enc P w base spare held n f.type [v] = some y := by
  rcases open_slice ht h with h0 | ⟨a, len, cap, m, n, D, Pl, hcs, hb, hl, hm, hmm, hx, hi⟩
  · exact .inl h0
  · refine .inr ⟨a, len, cap, m, D, Pl, hcs, hb, hl, hm, hmm, by rw [hC] at hx; exact hx, fun i him => ?_⟩
    obtain ⟨cs', hc, ht'⟩ := hi i him
    rw [hC] at hc
    obtain ⟨ys, n', hn', hy, hlen, hyl, hf⟩ := DataW.trod_struct he ht'
    obtain ⟨_, hcl, hat⟩ := World.cells?_some hc
    simp only [Prod.mk.injEq] at hy
    refine ⟨ys, n', hy.1, hy.2, hyl, fun j f hj => ?_⟩
    obtain ⟨ho, hk⟩ := hone_of hone j f hj
    have hjl : j < fs.size := (Array.getElem?_eq_some_iff.1 hj).1
    have hcell := hat j hjl
    have hv : cs'[j]? = some (cs'[j]'(by omega)) := List.getElem?_eq_getElem (by omega)
    have h1 := hf j f hj
    rw [ho, hk] at h1
    have hone' : (cs'.drop j).take 1 = [cs'[j]'(by omega)] := by
      rw [List.drop_eq_getElem_cons (by omega)]
      rfl
    rw [hone'] at h1
    have hys : ys[j]? = some (ys[j]'(by omega)) := List.getElem?_eq_getElem (by omega)
    refine ⟨_, _, ?_, hys, h1.trans hys⟩
    rw [← Go.Deep.add_add, hcell, hv]
end

theorem choose_list {α : Type} (P : Nat → α → Prop) : ∀ n, (∀ i, i < n → ∃ v, P i v) → ∃ l : List α, l.length = n ∧ ∀ i v, l[i]? = some v → P i v
  | 0, _ => ⟨[], rfl, fun i v h => by simp at h⟩
  | n + 1, h => by
    obtain ⟨l, hl, hp⟩ := choose_list P n (fun i hi => h i (by omega))
    obtain ⟨v, hv⟩ := h n (by omega)
    refine ⟨l ++ [v], by simp [hl], fun i u hu => ?_⟩
    rcases Nat.lt_or_ge i l.length with hlt | hge
    · rw [List.getElem?_append_left hlt] at hu; exact hp i u hu
    · rw [List.getElem?_append_right hge] at hu
      have hi : i - l.length = 0 := by
        rcases Nat.eq_zero_or_pos (i - l.length) with e | e
        · exact e
        · rw [List.getElem?_eq_none (by simp; omega)] at hu; cases hu
      rw [hi] at hu
      simp at hu
      subst hu
      have : i = n := by omega
      rw [this]; exact hv
theorem wf_le {n : Int} (h : (Lit.int .i64 n).wf = true) : n ≤ 9223372036854775807 := by
  simp only [Lit.wf, Bool.and_eq_true, decide_eq_true_eq] at h
  exact Int.le_trans h.2 (by decide)
section
variable {H : Type} {enc : TypeId × Value → H} {W : World} {held : Bool}
theorem open_keep {fuel : Nat} {cs : List Value} {x : DataW H × List MemPlace} (h : DataW.trod enc Tryd.prog W 0 (fun _ => true) held fuel 53 cs = some x) :
    ∃ a n c zs, cs = [.slice a n c] ∧ n ≤ maxLen ∧ IntsIn W a n zs ∧ (0 < n → ∀ ad, a = some ad → ad.block < W.heap.size) := by
  rcases open_ints Tryd.underlying53 Tryd.underlying3 (by kernel_rfl) h with ⟨rfl, _⟩ | ⟨a, len, cap, zs, rfl, hb, hl, hm, hz, _, hcells, _⟩
  · exact ⟨none, 0, 0, [], rfl, by decide, ⟨rfl, fun h => absurd h (by decide)⟩, fun h => absurd h (by decide)⟩
  · have hzl : zs.length = cap := by simpa using hz
    refine ⟨some a, len, cap, zs.take len, rfl, by omega, ⟨by simp; omega, fun _ => ⟨a, rfl, fun j z hj => ?_⟩⟩, fun h0 ad e => ?_⟩
    · have hjl : j < len := by
        rcases Nat.lt_or_ge j len with h | h
        · exact h
        · rw [List.getElem?_eq_none (by simp; omega)] at hj; cases hj
      have hc := hcells j (by omega)
      rw [List.getElem?_take, if_pos hjl] at hj
      rw [hc, List.getD_eq_getElem?_getD, hj]; rfl
    · injection e with e; subst e
      have hc := hcells 0 (by omega)
      have := block_lt_of_cell hc
      rwa [add_block] at this
theorem open_acts {fuel : Nat} {cs : List Value} {x : DataW H × List MemPlace} (h : DataW.trod enc Tryd.prog W 0 (fun _ => true) held fuel 43 cs = some x) :
    ∃ a n c acts, cs = [.slice a n c] ∧ ActsIn W.heap.size W a n acts := by
  rcases open_slice_fields Tryd.underlying43 Tryd.underlying55 (by kernel_rfl) (by kernel_rfl) h with ⟨rfl, _⟩ | ⟨a, len, cap, m, D, Pl, rfl, hb, hl, hm, hmm, _, hi⟩
  · exact ⟨none, 0, 0, [], rfl, ⟨rfl, by decide, fun v hv => (by cases hv), fun h => absurd h (by decide)⟩⟩
  · have hmc : m = cap := by simpa using hmm
    obtain ⟨acts, hal, hap⟩ := choose_list (fun i v => ActIn W.heap.size W v ∧ W.cell? (a.add (i * 4)) = some (.int .i64 v.kind) ∧ W.cell? (a.add (i * 4 + 1)) = some (.int .i64 v.i) ∧ W.cell? (a.add (i * 4 + 2)) = some (.string v.s) ∧ W.cell? (a.add (i * 4 + 3)) = some (.slice v.ka v.kn v.kc)) len (fun i hil => by
      obtain ⟨ys, nn, _, _, _, hf⟩ := hi i (by omega)
      obtain ⟨v0, y0, c0, _, t0⟩ := hf 0 _ rfl
      obtain ⟨v1, y1, c1, _, t1⟩ := hf 1 _ rfl
      obtain ⟨v2, y2, c2, _, t2⟩ := hf 2 _ rfl
      obtain ⟨v3, y3, c3, _, t3⟩ := hf 3 _ rfl
      obtain ⟨n0, e0, _, _⟩ := DataW.trod_int Tryd.underlying3 t0
      obtain ⟨n1, e1, _, w1⟩ := DataW.trod_int Tryd.underlying3 t1
      obtain ⟨s2, e2, _, w2⟩ := DataW.trod_string Tryd.underlying9 t2
      obtain ⟨ka, kn, kc, zs, e3, hkn, hints, hold⟩ := open_keep t3
      injection e0 with e0 _
      injection e1 with e1 _
      injection e2 with e2 _
      injection e3 with e3 _
      subst e0; subst e1; subst e2; subst e3
      exact ⟨⟨n0, n1, s2, ka, kn, kc, zs⟩, ⟨wf_le w1, w2, hkn, hints, hold⟩, c0, c1, c2, c3⟩)
    refine ⟨some a, len, cap, acts, rfl, ⟨hal, by omega, fun v hv => ?_, fun h0 => ⟨a, rfl, ?_, fun j v hj => (hap j v hj).2⟩⟩⟩
    · obtain ⟨i, hi⟩ := List.getElem?_of_mem hv
      exact (hap i v hi).1
    · have hv : acts[0]? = some (acts[0]'(by omega)) := List.getElem?_eq_getElem (by omega)
      have := block_lt_of_cell (hap 0 _ hv).2.1
      rwa [add_block] at this
end
end Go.Proofs.YteljihpheffjnaaDoor.Drum
/- TapeKept, walked. -/
namespace Go.Proofs.YteljihpheffjnaaDoor.Tape
open Go.RowKit Go.Proofs.YteljihpheffjnaaDoor.Ord Go.Proofs.YteljihpheffjnaaDoorW.PrintWords Go.Proofs.YteljihpheffjnaaDoor.Base Go.Proofs.YteljihpheffjnaaDoor.Drum
set_option linter.unusedVariables false
set_option linter.unusedSimpArgs false
attribute [local go_sem] rdl_const rdl_func rdl_global rdl_nil rdl_cons
attribute [local irreducible] OpGives

theorem sep_drop {B : Nat} {w W : World} {l r : List Thing} (h : Sep B w W (l ++ r)) : Sep B w W l :=
  ⟨h.below, h.le, fun t ht => h.all t (List.mem_append_left _ ht), (List.pairwise_append.1 h.apart).1⟩
/-- While the calls are gone through. -/
def KeptR (w : World) (N n b : Nat) (tv hv sv iv : Value) (wr : World) : Prop :=
  ∃ (k tb : Nat) (T : TS) (D : DS) (t : Thing) (A R H : List (List UInt8)) (S q : Nat), H = A ++ R ∧ iv = .int .i64 (k : Int) ∧ k ≤ n ∧ tv = .pointer (some ⟨tb, 0, none⟩) ∧ sv = .int .i64 (A.length : Int) ∧ IsDrum b D t ∧ Sep w.heap.size w wr (textsT hv H :: tapeT tb b T :: t :: []) ∧ Inv N T D A R S q ∧ T.life ≤ k + 1
/-- What an append leaves, seen by the law. -/
theorem kept_append {N : Nat} {T : TS} {D : DS} {A R : List (List UInt8)} {S q : Nat} (h : Inv N T D A R S q) (s : List UInt8) (hs : s.length ≤ 100000) :
    (((T.append D s).1 = 8 ∨ ((T.append D s).1 = 9 ∧ (A ++ R).length ≠ T.count)) ∧ Inv N (T.append D s).2.1 (T.append D s).2.2 A R S q ∧ (T.append D s).2.1.life = T.life) ∨
    ((A ++ R).length = T.count ∧ ((T.append D s).1 = 9 ∨ ((T.append D s).1 = 0 ∧ (T.append D s).2.1.count = T.count + 1)) ∧ Inv N (T.append D s).2.1 (T.append D s).2.2 A (R ++ [s]) S q ∧ (T.append D s).2.1.life = T.life) := by
  rcases h.append s hs with ⟨h1, h2⟩ | ⟨h1, _, h3⟩ | ⟨h1, _, h3, h4, h5⟩ | ⟨h1, _, h3, h4, h5⟩
  · rw [h2]
    by_cases hc : (A ++ R).length = T.count
    · exact .inr ⟨hc, .inl rfl, h.way h1 hc s hs, rfl⟩
    · exact .inl ⟨.inr ⟨rfl, hc⟩, h, rfl⟩
  · rw [h3]; exact .inl ⟨.inl rfl, h, rfl⟩
  · exact .inr ⟨(h.good h1).1.symm, .inr ⟨h3, by rw [h4]⟩, h5, by rw [h4]⟩
  · exact .inr ⟨(h.good h1).1.symm, .inl h3, h5, by rw [h4]⟩
set_option maxRecDepth 100000 in
set_option maxHeartbeats 16000000 in
theorem tapeKept_in (N n cap : Nat) (a : Option Addr) (acts : List ActV) (w : World) (hN : 0 < N ∧ N ≤ 60) (h : ActsIn w.heap.size w a n acts) (hf : fewB acts = true) :
    Calls Tryd.prog 6 #[.int .i64 (N : Int), .slice a n cap] w fun e w' => e = .returned (.bool true) ∧ NewMem w w' := by
  have hfew := few_at w.heap.size a n cap acts w h
  rw [hf] at hfew
  unfold fewB at hf
  rw [Bool.and_eq_true] at hf
  have hn : n ≤ 100 := by have := h.len; have := of_decide_eq_true hf.1; omega
  have hS := Sep.start w
  obtain ⟨q, hq⟩ := inv_zero N (by omega)
  have HS := Lib.hid hS
  have HQ := Lib.hid hq
  have HA := Lib.hid h
  have HSM := Lib.hid hf.2
  have HN := Lib.hid hN
  have HFEW := Lib.hid hfew
  have hd1 : decide ((N : Int) < 1) = false := decide_eq_false (by omega)
  have hd1' : decide (N < 1) = false := decide_eq_false (by omega)
  have hd2' : decide (60 < N) = false := decide_eq_false (by omega)
  have hd2 : decide ((60 : Int) < (N : Int)) = false := decide_eq_false (by omega)
  clear hS hq h hN hf hfew
  go_enter Tryd.func6, Tryd.ntmps6
  go_wp2_with fail
  refine HFEW.out.mono ?_
  rintro e w' ⟨rfl, rfl⟩
  go_wp2_with fail
  refine (new_sep HS.out N HN.out.1 (by have := HN.out; omega)).mono ?_
  rintro e W1 ⟨v, rfl, b, t1, rfl, ht1, hS1⟩
  have HT1 := Lib.hid ht1
  have hop := open_sep hS1 HT1.out (Nat.zero_le _) (by rw [great_zero]; decide)
  rw [opened_ok rfl (by rw [great_zero]; decide)] at hop
  have HOP := Lib.hid hop
  clear ht1 hS1 hop hd1 hd2
  go_wp2_with fail
  refine HOP.out.mono ?_
  rintro e W2 ⟨tb, lv, rfl, hS2⟩
  rw [tape_zero, scan_zero] at hS2
  obtain ⟨la, lcp, rfl⟩ := texts_slice (sep_head (Sep.swap hS2))
  have HS2 := Lib.hid (Sep.swap hS2)
  clear hS2 HOP
  go_wp2_with fail
  go_loopw [7, 8, 10, 11] (fun tv hv sv iv wr => KeptR w N n b tv hv sv iv wr) (fun _ _ _ i _ => n - (intOf i).toNat)
  case atStart => exact ⟨0, tb, ⟨0, 1, 0, 0⟩, DS.zero N, t1, [], [], [], 0, q, rfl, rfl, Nat.zero_le _, rfl, rfl, HT1.out, HS2.out, HQ.out, Nat.le_refl _⟩
  case round =>
    obtain ⟨k, tb, T, D, t, A, R, H, S, q, hH, rfl, hk, rfl, rfl, ht, hsep, hinv, hlf⟩ := hrel
    obtain ⟨va, vc, rfl⟩ := texts_slice (sep_head hsep)
    have hm1 : ((k : Int) + 1).toNat = k + 1 := by omega
    have hb : D.sure.length = N ∧ T.at_ ≤ N ∧ D.loose.length ≤ N ∧ T.life < 4294967296 ∧ T.count ≤ T.at_ ∧ T.count ≤ H.length ∧ H.length ≤ T.count + 1 := ⟨hinv.len, hinv.at_, hinv.ll, hinv.life.2, hinv.cnt, by rw [hH]; exact hinv.had.1, by rw [hH]; exact hinv.had.2⟩
    have HH := Lib.hid hH
    clear hH
    have HSEP := Lib.hid hsep
    have HT := Lib.hid ht
    have HINV := Lib.hid hinv
    have HB := Lib.hid hb
    have HLF := Lib.hid hlf
    clear hsep ht hinv hb hlf
    by_cases hlt : k < n
    · obtain ⟨ad, rfl, hold, hcs⟩ := HA.out.cells (by omega)
      obtain ⟨v, hv⟩ : ∃ v, acts[k]? = some v := ⟨_, List.getElem?_eq_getElem (by rw [HA.out.len]; exact hlt)⟩
      have hvm := List.mem_of_getElem? hv
      have hok := (HA.out.all v hvm).ok (List.all_eq_true.1 HSM.out v hvm)
      have hsm : v.s.size ≤ 600 := by
        have := List.all_eq_true.1 HSM.out v hvm
        unfold ActV.small at this
        simp only [Bool.and_eq_true, decide_eq_true_eq] at this
        exact this.1
      have hc0 := hcs k v hv
      have cell : ∀ W, Below w.heap.size w W → W.cell? (ad.add (k * 4)) = some (.int .i64 v.kind) ∧ W.cell? ⟨(ad.add (k * 4)).block, (ad.add (k * 4)).off + 1, none⟩ = some (.int .i64 v.i) ∧ W.cell? ⟨(ad.add (k * 4)).block, (ad.add (k * 4)).off + 2, none⟩ = some (.string v.s) ∧ W.cell? ⟨(ad.add (k * 4)).block, (ad.add (k * 4)).off + 3, none⟩ = some (.slice v.ka v.kn v.kc) := fun W hW => by
        have hbk : ∀ j, (ad.add j).block < w.heap.size := fun j => by rw [Drum.add_block]; exact hold
        obtain ⟨c0, c1, c2, c3⟩ := hc0
        have d0 := (hW.cell (p := ad.add (k * 4)) (hbk _)).trans c0
        have d1 := (hW.cell (p := ad.add (k * 4 + 1)) (hbk _)).trans c1
        have d2 := (hW.cell (p := ad.add (k * 4 + 2)) (hbk _)).trans c2
        have d3 := (hW.cell (p := ad.add (k * 4 + 3)) (hbk _)).trans c3
        rw [add_next] at d1 d2 d3
        exact ⟨d0, d1, d2, d3⟩
      have CELL := Lib.hid cell
      have HOK := Lib.hid hok
      have hdk : decide (k < n) = true := decide_eq_true hlt
      obtain ⟨c0, c1, c2, c3⟩ := cell wr HSEP.out.below
      clear hcs hv hvm hok hc0 cell hold
      obtain ⟨kind, ai, sx, ka, kn, kc, zs⟩ := v
      simp only at c0 c1 c2 c3 hsm
      by_cases k1 : kind = 1
      · subst k1
        clear c1 c2 c3
        have hst := tsettle_tape (HSEP.out.perm (rot3 _ _ _ _)) HT.out (by have := HB.out; have := HN.out; omega)
        have hcase := HINV.out.settle
        obtain ⟨r, hr⟩ : ∃ r, r = T.settle D := ⟨_, rfl⟩
        rw [← hr] at hst hcase
        have HST := Lib.hid hst
        have HCASE := Lib.hid hcase
        clear hst hcase hr
        go_wp2_with fail
        refine HST.out.mono ?_
        rintro e W3 ⟨t3, rfl, ht3, hS3⟩
        have HT3 := Lib.hid ht3
        have HS3 := Lib.hid (hS3.perm (rot3' _ _ _ _))
        clear ht3 hS3
        rcases HCASE.out with ⟨h1, h2⟩ | ⟨h1, h2, h3, q', h5⟩ | ⟨h1, h2, h3, h5⟩
        · rw [h2] at HS3 HT3 ⊢
          clear h1 h2
          go_wp2_with fail
          go_roundw
          case rel => exact ⟨k + 1, tb, T, D, t3, A, R, H, S, q, HH.out, by go_num, hlt, rfl, rfl, HT3.out, HS3.out, HINV.out, by have := HLF.out; omega⟩
          case measure =>
            have hm : n - (k + 1) < n - k := by omega
            simp only [intOf, Int.toNat_natCast, hm1]
            exact hm
        · rw [h2]
          rw [h3] at HS3
          rw [← HH.out] at h5
          have H5 := Lib.hid h5
          clear h1 h2 h3 h5
          go_wp2_with fail
          go_roundw
          case rel => exact ⟨k + 1, tb, T, r.2.2, t3, H, [], H, T.at_, q', by rw [List.append_nil], by go_num, hlt, rfl, rfl, HT3.out, HS3.out, H5.out, by have := HLF.out; omega⟩
          case measure =>
            have hm : n - (k + 1) < n - k := by omega
            simp only [intOf, Int.toNat_natCast, hm1]
            exact hm
        · rw [h2]
          rw [h3] at HS3
          have H5 := Lib.hid h5
          clear h1 h2 h3 h5
          go_wp2_with fail
          go_roundw
          case rel => exact ⟨k + 1, tb, _, r.2.2, t3, A, R, H, S, q, HH.out, by go_num, hlt, rfl, rfl, HT3.out, HS3.out, H5.out, by have := HLF.out; show T.life ≤ _; omega⟩
          case measure =>
            have hm : n - (k + 1) < n - k := by omega
            simp only [intOf, Int.toNat_natCast, hm1]
            exact hm
      · have k1' : (kind == 1) = false := by simpa using k1
        by_cases k4 : kind = 4
        · subst k4
          clear c2 c3
          have har := arm_sep (HSEP.out.perm ((rot3 _ _ _ _).trans (rot3 _ _ _ _))) HT.out ai
          obtain ⟨r, hr⟩ : ∃ r, r = D.arm ai := ⟨_, rfl⟩
          have hrs : r.2.sure = D.sure ∧ r.2.loose = D.loose := by
            rw [hr]; unfold DS.arm
            split
            · exact ⟨rfl, rfl⟩
            · split
              · exact ⟨rfl, rfl⟩
              · exact ⟨rfl, rfl⟩
          rw [← hr] at har
          have HAR := Lib.hid har
          have HRS := Lib.hid hrs
          clear har hr hrs
          go_wp2_with fail
          refine HAR.out.mono ?_
          rintro e W3 ⟨t3, rfl, ht3, hS3⟩
          have HT3 := Lib.hid ht3
          have HS3 := Lib.hid (hS3.perm ((rot3' _ _ _ _).trans (rot3' _ _ _ _)))
          clear ht3 hS3
          go_wp2_with fail
          go_roundw
          case rel => exact ⟨k + 1, tb, T, r.2, t3, A, R, H, S, q, HH.out, by go_num, hlt, rfl, rfl, HT3.out, HS3.out, HINV.out.marks HRS.out.1 HRS.out.2, by have := HLF.out; omega⟩
          case measure =>
            have hm : n - (k + 1) < n - k := by omega
            simp only [intOf, Int.toNat_natCast, hm1]
            exact hm
        · have k4' : (kind == 4) = false := by simpa using k4
          by_cases k23 : kind = 2 ∨ kind = 3
          · have hcr := crash_sep (HSEP.out.perm ((rot3 _ _ _ _).trans (rot3 _ _ _ _))) HT.out (by have := HB.out; have := HN.out; omega) ka kn kc zs (HOK.out.ints.later HOK.out.old HSEP.out) (fun h0 ad e hF => by
              have h1 := HOK.out.old h0 ad e
              have h2 := (HSEP.out.all t (by simp)).2 _ hF
              omega)
            obtain ⟨S', hcS, hSl, hSg, r0, hr0, hsc, hli, _⟩ := HINV.out.crash zs
            rw [hcS] at hcr
            obtain ⟨q', hinv'⟩ := inv_open S' (by rw [hSl]; have := HN.out; omega) (by have := HLF.out; omega)
            rw [hSl] at hinv'
            obtain ⟨M, hM⟩ : ∃ M, M = (DS.scan (pd S')).1 := ⟨_, rfl⟩
            obtain ⟨gr, hgr⟩ : ∃ gr, gr = DS.great (pd S') := ⟨_, rfl⟩
            rw [← hM] at hsc hinv'
            rw [← hgr] at hSg hli
            have hop : ∀ (W : World) (l : List Thing) (t3 : Thing), Sep w.heap.size w W (t3 :: l) → IsDrum b (pd S') t3 → Calls Tryd.prog 8 #[.pointer (some ⟨b, 0, none⟩)] W fun e W' => ∃ tb v, e = .returned (.tuple #[.pointer (some ⟨tb, 0, none⟩), v, .int .i64 0]) ∧ Sep w.heap.size w W' (tapeT tb b (DS.tape (pd S')) :: textsT v M :: t3 :: l) := fun W l t3 hs hd => by
              have := open_sep hs hd (Nat.zero_le _) (by rw [← hgr]; have := HLF.out; omega)
              rw [opened_ok rfl (by rw [← hgr]; have := HLF.out; omega)] at this
              rw [hM]; exact this
            have htl : ((DS.tape (pd S')).life : Int) = ((gr + 1 : Nat) : Int) := by rw [hgr]; rfl
            have hpre : H = M ++ R.drop r0 := by rw [HH.out, hsc, List.append_assoc, List.take_append_drop]
            have hfin : A.length ≤ M.length ∧ (A.length < M.length → T.life ≤ gr) ∧ M.length ≤ 100 := by
              have hMl : M.length = A.length + r0 := by rw [hsc, List.length_append, List.length_take]; omega
              refine ⟨by omega, fun h => hli (by omega), ?_⟩
              have h1 : M.length ≤ H.length := by rw [hpre, List.length_append]; omega
              have := HB.out; have := HN.out; omega
            have htlife : (DS.tape (pd S')).life ≤ k + 1 + 1 := by show DS.great (pd S') + 1 ≤ _; rw [← hgr]; have := HLF.out; omega
            have HCR := Lib.hid hcr
            have HI := Lib.hid hinv'
            have HOP := Lib.hid hop
            have HTL := Lib.hid htl
            have HPRE := Lib.hid hpre
            have HFIN := Lib.hid hfin
            have HTLF := Lib.hid htlife
            have hHl : H.length ≤ 1000000000 := by have := HB.out; have := HN.out; omega
            clear hcr hcS hSl hSg hr0 hsc hli hinv' hM hgr hop htl hpre hfin htlife
            rcases k23 with k2 | k3
            all_goals
              subst kind
              go_wp2_with fail
              refine HCR.out.mono ?_
              rintro e W3 ⟨t3, rfl, ht3, hS3⟩
              have HT3 := Lib.hid (show IsDrum b (pd S') t3 from ht3)
              have HO1 := Lib.hid (HOP.out W3 _ t3 hS3 HT3.out)
              clear ht3 hS3
              go_wp2_with fail
              refine HO1.out.mono ?_
              rintro e W4 ⟨tb1, v1, rfl, hS4⟩
              obtain ⟨na, nc, rfl⟩ := texts_slice (sep_head (Sep.swap hS4))
              have HO2 := Lib.hid (HOP.out W4 _ t3 (hS4.perm (rot3' _ _ _ _)) HT3.out)
              clear hS4 HO1
              go_wp2_with fail
              refine HO2.out.mono ?_
              rintro e W5 ⟨tb2, v2, rfl, hS5⟩
              obtain ⟨ya, yc, rfl⟩ := texts_slice (sep_head (Sep.swap hS5))
              have hx1 : StrsAt W5 na M.length M := strs_of (hS5.all (textsT (.slice na M.length nc) M) (by simp)).1 (by have := HFIN.out; omega)
              have hx2 : StrsAt W5 ya M.length M := strs_of (hS5.all (textsT (.slice ya M.length yc) M) (by simp)).1 (by have := HFIN.out; omega)
              have hx3 : StrsAt W5 va H.length H := strs_of (hS5.all (textsT (.slice va H.length vc) H) (by simp)).1 hHl
              have HS5 := Lib.hid hS5
              have HX1 := Lib.hid hx1
              have HX2 := Lib.hid hx2
              have HX3 := Lib.hid hx3
              clear hS5 hx1 hx2 hx3 HO2
              have hdl : decide (M.length < A.length) = false := decide_eq_false (by have := HFIN.out; omega)
              go_wp2_with fail
              refine (begins_at va na H.length M.length vc nc H M _ W5 HX3.out HX1.out HPRE.out).mono ?_
              rintro e w' ⟨rfl, m1, rfl⟩
              have hsame := same_at na ya M.length M.length nc yc M M (W5.drewN m1) (HX1.out.drewN m1) (HX2.out.drewN m1)
              rw [decide_eq_true rfl] at hsame
              have HSAME := Lib.hid hsame
              have HS6 := Lib.hid (HS5.out.drewN m1)
              clear hsame
              generalize W5.drewN m1 = W6 at *
              go_wp2_with fail
              refine HSAME.out.mono ?_
              rintro e w' ⟨rfl, m2, rfl⟩
              have HS7 := Lib.hid (HS6.out.drewN m2)
              generalize W6.drewN m2 = W7 at *
              have hl1 := tlife_tape (tb := tb1) (b := b) (T := DS.tape (pd S')) (W := W7) (HS7.out.all (tapeT tb1 b (DS.tape (pd S'))) (by simp)).1
              rw [HTL.out] at hl1
              have hl2 := tlife_tape (tb := tb) (b := b) (T := T) (W := W7) (HS7.out.all (tapeT tb b T) (by simp)).1
              have HL1 := Lib.hid hl1
              have HL2 := Lib.hid hl2
              clear hl1 hl2
              go_wp2_with fail
              refine HL1.out.mono ?_
              rintro e w' ⟨rfl, rfl⟩
              go_wp2_with fail
              refine HL2.out.mono ?_
              rintro e w' ⟨rfl, rfl⟩
              have HKEEP := Lib.hid (sep_drop (l := [textsT (.slice na M.length nc) M, tapeT tb1 b (DS.tape (pd S')), t3]) (r := [tapeT tb2 b (DS.tape (pd S')), textsT (.slice ya M.length yc) M, textsT (.slice va H.length vc) H, tapeT tb b T]) (HS7.out.perm (((List.perm_append_comm (l₁ := [_, _]) (l₂ := [_, _, _])).append_right [_, _]).trans ((List.reverse_perm [_, _, _]).symm.append_right [_, _, _, _]))))
              have hrel : KeptR w N n b (.pointer (some ⟨tb1, 0, none⟩)) (.slice na M.length nc) (.int .i64 (M.length : Int)) (.int .i64 ((k + 1 : Nat) : Int)) w' := ⟨k + 1, tb1, DS.tape (pd S'), pd S', t3, M, [], M, _, q', by rw [List.append_nil], rfl, hlt, rfl, rfl, HT3.out, HKEEP.out, HI.out, HTLF.out⟩
              have HREL := Lib.hid hrel
              clear hrel
              by_cases hle : gr + 1 ≤ T.life
              · have hd5 : decide (gr + 1 ≤ T.life) = true := decide_eq_true hle
                have hd6 : decide (A.length < M.length) = false := decide_eq_false (fun h => by have := HFIN.out.2.1 h; omega)
                go_wp2_with fail
                refine ⟨by rw [show (k : Int) + 1 = ((k + 1 : Nat) : Int) by omega]; exact HREL.out, ?_⟩
                have hm : n - (k + 1) < n - k := by omega
                simp only [intOf, Int.toNat_natCast, hm1]
                exact hm
              · have hd5 : decide (gr + 1 ≤ T.life) = false := decide_eq_false hle
                go_wp2_with fail
                refine ⟨by rw [show (k : Int) + 1 = ((k + 1 : Nat) : Int) by omega]; exact HREL.out, ?_⟩
                have hm : n - (k + 1) < n - k := by omega
                simp only [intOf, Int.toNat_natCast, hm1]
                exact hm
          · have k2' : (kind == 2) = false := by simpa using fun e => k23 (.inl e)
            have k3' : (kind == 3) = false := by simpa using fun e => k23 (.inr e)
            have hla := tlen_tape (b := b) (T := T) (W := wr) (HSEP.out.all (tapeT tb b T) (by simp)).1
            have hap := append_tape (HSEP.out.perm (rot3 _ _ _ _)) HT.out (by have := HB.out; have := HN.out; omega) sx (by omega) (by have := HB.out; omega) (by have := HB.out; omega) (by have := HB.out; have := HN.out; omega)
            have hcase := kept_append HINV.out sx.data.toList (by rw [← Lib.size_eq]; omega)
            rw [← HH.out] at hcase
            obtain ⟨r, hr⟩ : ∃ r, r = T.append D sx.data.toList := ⟨_, rfl⟩
            rw [← hr] at hap hcase
            have HLA := Lib.hid hla
            have HAP := Lib.hid hap
            clear hla hap hr c1 c3
            go_wp2_with fail
            refine HLA.out.mono ?_
            rintro e w' ⟨rfl, rfl⟩
            have k1'' := k1'
            go_wp2_with fail
            refine HAP.out.mono ?_
            rintro e W3 ⟨t3, rfl, ht3, hS3⟩
            have HT3 := Lib.hid ht3
            have HS3 := Lib.hid (hS3.perm (rot3' _ _ _ _))
            have hsrc : ∀ W, NewMem W3 W → (textsT (.slice va H.length vc) H).P W := fun W hW => (HS3.out.grown hW).all _ List.mem_cons_self |>.1
            have HSRC := Lib.hid hsrc
            have HBL := Lib.hid (show ∀ W, NewMem W3 W → Below w.heap.size w W from fun W hW => (HS3.out.grown hW).below)
            obtain ⟨ib, hib, _⟩ := info_parts info_string
            clear ht3 hS3 hsrc
            rcases hcase with ⟨hf, hnew⟩ | ⟨hlen, hf, hnew⟩
            · have HNEW := Lib.hid hnew
              clear hnew
              rcases hf with hf | ⟨hf, hlen⟩
              · rw [hf]
                go_wp2_with fail
                go_roundw
                case rel => exact ⟨k + 1, tb, r.2.1, r.2.2, t3, A, R, H, S, q, HH.out, by go_num, hlt, rfl, rfl, HT3.out, HS3.out, HNEW.out.1, by rw [HNEW.out.2]; have := HLF.out; omega⟩
                case measure =>
                  have hm : n - (k + 1) < n - k := by omega
                  simp only [intOf, Int.toNat_natCast, hm1]
                  exact hm
              · rw [hf]
                have hdl : ((H.length : Int) == (T.count : Int)) = false := beq_eq_false_iff_ne.2 (by omega)
                have hdl' : (H.length == T.count) = false := beq_eq_false_iff_ne.2 hlen
                go_wp2_with fail
                go_roundw
                case rel => exact ⟨k + 1, tb, r.2.1, r.2.2, t3, A, R, H, S, q, HH.out, by go_num, hlt, rfl, rfl, HT3.out, HS3.out, HNEW.out.1, by rw [HNEW.out.2]; have := HLF.out; omega⟩
                case measure =>
                  have hm : n - (k + 1) < n - k := by omega
                  simp only [intOf, Int.toNat_natCast, hm1]
                  exact hm
            · have HNEW := Lib.hid hnew
              clear hnew
              have hdl : ((H.length : Int) == (T.count : Int)) = true := beq_iff_eq.2 (by omega)
              have hdl' : (H.length == T.count) = true := beq_iff_eq.2 hlen
              clear hlen
              rcases hf with hf | ⟨hf, hc1⟩
              · rw [hf]
                go_wp2_with fail
                refine' wp_region_factsG (sz := 192) (S := (SHad W3.heap.size W3 H sx)) (fun _ _ _ => True) [anyM, eqM (.slice va H.length vc), anyM, eqM _, eqM _, eqM (.pointer (some (ad.add (k * 4)))), eqM _, eqM (.string sx), anyM, anyM] (by kernel_rfl) (by kernel_rfl) rfl (guardsM_of [] (n := 10) rfl (by kernel_rfl) trivial) ?hst ?h0 (Ord.stepsG_cons ?s0 (Ord.stepsG_cons ?s1 (Ord.stepsG_cons ?s2 (Ord.stepsG_cons ?s3 (Ord.stepsG_cons ?s4 (Ord.stepsG_cons ?s5 (Ord.stepsG_cons ?s6 (Ord.stepsG_cons ?s7 (Ord.stepsG_cons ?s8 (Ord.stepsG_cons ?s9 (Ord.stepsG_nil))))))))))) ?fin
                case s0 =>
                  intro g W L hL hWt hCl hSW hd
                  try simp only [Nat.zero_add, Nat.reduceAdd] at hd ⊢
                  with_reducible refine OpGives.pre_reads [] 192 ?_ ?_ ?_
                  · rfl
                  · kernel_rfl
                  simp only [List.map_cons, List.map_nil]
                  exact OpGives.val (v := .slice (some ⟨W.heap.size, 0, none⟩) 0 0) (w' := W.alloc (.cells #[] 9)) (exec_buildSlice 28 0 #[] rfl (lit_none W ib hib _ (by simp))) ⟨trivial, trivial, had_zero hL hCl hSW (by kernel_rfl) (by kernel_rfl)⟩
                case s1 =>
                  intro g W L hL hWt hCl hSW hd
                  try simp only [Nat.zero_add, Nat.reduceAdd] at hd ⊢
                  with_reducible refine OpGives.pre_reads [] 192 ?_ ?_ ?_
                  · rfl
                  · kernel_rfl
                  simp only [List.map_cons, List.map_nil]
                  refine OpGives.val (w' := W) ?_ ⟨trivial, rfl, (SHad.keep hSW _ _ (by decide) (by decide) (by decide) (by decide))⟩
                  go_simp
                  try with_reducible rfl
                case s2 =>
                  intro g W L hL hWt hCl hSW hd
                  try simp only [Nat.zero_add, Nat.reduceAdd] at hd ⊢
                  have h0 := hd 0 (by decide) (by kernel_rfl)
                  change (anyM) (g 0) W at h0
                  have h1 : g 1 = _ := hd 1 (by decide) (by kernel_rfl)
                  with_reducible refine OpGives.pre_reads [(181, 0), (182, 1)] 192 ?_ ?_ ?_
                  · rfl
                  · kernel_rfl
                  simp only [List.map_cons, List.map_nil]
                  obtain ⟨v', W', hr, hrow, hb, hk⟩ := rows_append (hSW.2.2.1 (hWt 0 (by kernel_rfl)) hL).1 hSW.2.1 (.slice va H.length vc) H (src_of (HSRC.out W hSW.1)) (by rw [List.length_nil]; have := HB.out; have := HN.out; omega); rw [← h1] at hr; exact OpGives.val (v := v') (w' := W') (exec_append2 _ _ _ _ rfl hr) ⟨trivial, trivial, had_two hL hCl (hWt 0 (by kernel_rfl)) hSW (by kernel_rfl) (by simpa using hrow) hb hk⟩
                case s3 =>
                  intro g W L hL hWt hCl hSW hd
                  try simp only [Nat.zero_add, Nat.reduceAdd] at hd ⊢
                  with_reducible refine OpGives.pre_reads [] 192 ?_ ?_ ?_
                  · rfl
                  · kernel_rfl
                  simp only [List.map_cons, List.map_nil]
                  refine OpGives.val (w' := W) ?_ ⟨trivial, rfl, (SHad.keep hSW _ _ (by decide) (by decide) (by decide) (by decide))⟩
                  go_simp
                  try with_reducible rfl
                case s4 =>
                  intro g W L hL hWt hCl hSW hd
                  try simp only [Nat.zero_add, Nat.reduceAdd] at hd ⊢
                  with_reducible refine OpGives.pre_reads [] 192 ?_ ?_ ?_
                  · rfl
                  · kernel_rfl
                  simp only [List.map_cons, List.map_nil]
                  refine OpGives.val (w' := W) ?_ ⟨trivial, rfl, (SHad.keep hSW _ _ (by decide) (by decide) (by decide) (by decide))⟩
                  go_simp
                  try with_reducible rfl
                case s5 =>
                  intro g W L hL hWt hCl hSW hd
                  try simp only [Nat.zero_add, Nat.reduceAdd] at hd ⊢
                  have h3 : g 3 = _ := hd 3 (by decide) (by kernel_rfl)
                  have h4 : g 4 = _ := hd 4 (by decide) (by kernel_rfl)
                  with_reducible refine OpGives.pre_reads [(184, 3), (185, 4)] 192 ?_ ?_ ?_
                  · rfl
                  · kernel_rfl
                  simp only [List.map_cons, List.map_nil]
                  refine OpGives.val (w' := W) ?_ ⟨trivial, rfl, (SHad.keep hSW _ _ (by decide) (by decide) (by decide) (by decide))⟩
                  go_simp
                  try with_reducible rfl
                case s6 =>
                  intro g W L hL hWt hCl hSW hd
                  try simp only [Nat.zero_add, Nat.reduceAdd] at hd ⊢
                  have h5 : g 5 = _ := hd 5 (by decide) (by kernel_rfl)
                  with_reducible refine OpGives.pre_reads [(186, 5)] 192 ?_ ?_ ?_
                  · rfl
                  · kernel_rfl
                  simp only [List.map_cons, List.map_nil]
                  refine OpGives.val (w' := W) ?_ ⟨trivial, rfl, (SHad.keep hSW _ _ (by decide) (by decide) (by decide) (by decide))⟩
                  go_simp
                  try with_reducible rfl
                case s7 =>
                  intro g W L hL hWt hCl hSW hd
                  try simp only [Nat.zero_add, Nat.reduceAdd] at hd ⊢
                  have h6 : g 6 = _ := hd 6 (by decide) (by kernel_rfl)
                  with_reducible refine OpGives.pre_reads [(187, 6)] 192 ?_ ?_ ?_
                  · rfl
                  · kernel_rfl
                  simp only [List.map_cons, List.map_nil]
                  have c2 := (CELL.out W (HBL.out W hSW.1)).2.2.1; refine OpGives.val (v := .string sx) (w' := W) ?_ ⟨trivial, rfl, SHad.keep hSW _ _ (by decide) (by decide) (by decide) (by decide)⟩; go_simp
                case s8 =>
                  intro g W L hL hWt hCl hSW hd
                  try simp only [Nat.zero_add, Nat.reduceAdd] at hd ⊢
                  have h7 : g 7 = _ := hd 7 (by decide) (by kernel_rfl)
                  with_reducible refine OpGives.pre_reads [(188, 7)] 192 ?_ ?_ ?_
                  · rfl
                  · kernel_rfl
                  simp only [List.map_cons, List.map_nil]
                  exact OpGives.val (v := .slice (some ⟨W.heap.size, 0, none⟩) 1 1) (w' := W.alloc (.cells #[.string sx] 9)) (exec_buildSlice 28 1 _ rfl (lit_text sx W _ (by rw [h7]; simp [rdl_cons]))) ⟨trivial, trivial, had_eight hL hCl hSW (by kernel_rfl)⟩
                case s9 =>
                  intro g W L hL hWt hCl hSW hd
                  try simp only [Nat.zero_add, Nat.reduceAdd] at hd ⊢
                  have h2 := hd 2 (by decide) (by kernel_rfl)
                  change (anyM) (g 2) W at h2
                  have h8 := hd 8 (by decide) (by kernel_rfl)
                  change (anyM) (g 8) W at h8
                  with_reducible refine OpGives.pre_reads [(183, 2), (189, 8)] 192 ?_ ?_ ?_
                  · rfl
                  · kernel_rfl
                  simp only [List.map_cons, List.map_nil]
                  obtain ⟨kb, e8, hkb⟩ := hSW.2.2.2.2.1 (hWt 8 (by kernel_rfl)) hL; obtain ⟨v', W', hr, hrow, hb, _⟩ := rows_append (hSW.2.2.2.1 (hWt 2 (by kernel_rfl)) hL) hSW.2.1 (.slice (some ⟨kb, 0, none⟩) 1 1) [sx.data.toList] (.inr ⟨_, _, rfl, one_cell hkb⟩) (by rw [List.length_singleton]; have := HB.out; have := HN.out; omega); rw [← e8] at hr; exact OpGives.val (v := v') (w' := W') (exec_append2 _ _ _ _ rfl hr) ⟨trivial, trivial, had_nine hL (hWt 2 (by kernel_rfl)) hSW hrow hb⟩
                case hst =>
                  refine fun i j v w w' _ h _ => st_of (R := fun _ _ => True) ?_ i v w w' h trivial
                  repeat' first
                    | exact trivial
                    | with_reducible refine StL.eq ?_
                    | with_reducible refine StL.any ?_
                case h0 => exact ⟨(Below.refl _ _).drew, Nat.le_refl _, (fun h => by cases h), (fun h => by cases h), (fun h => by cases h), (fun h => by cases h)⟩
                case fin =>
                  intro v W L hL hSW hf
                  have hrow := hSW.2.2.2.2.2 (hL 9 (Nat.lt_of_lt_of_eq (by decide : 9 < 10) rfl))
                  have hbw : NewMem W3 W := hSW.1
                  clear hf hSW hL
                  generalize hF : Ord.pre _ _ v _ = F
                  rw [Ord.pre_lit [some 181, some 182, some 183, some 184, some 185, some 186, some 187, some 188, some 189, some 190]
                    (by kernel_rfl)] at hF
                  simp only [Ord.puts, Nat.zero_add, Nat.reduceAdd] at hF
                  subst hF
                  have hs4 := HS3.out.new hbw (t := textsT (v 9) (H ++ [sx.data.toList])) (owns_low hrow) (fun k hk => (World.ownsRow.lt hrow k hk).1)
                  have hs5 := (Sep.swap hs4).tail
                  have HS5 := Lib.hid hs5
                  clear hrow hbw hs4 hs5
                  generalize v 9 = hv9 at *
                  refine any_one (i := 10) (by kernel_rfl) ?_
                  refine wpOp_value (v := hv9) (w' := W) rfl rfl (by go_simp) ?_
                  refine wpAny_done (by kernel_rfl) ?_ _
                  try simp only [List.getElem_toArray, List.getElem_cons_succ, List.getElem_cons_zero]
                  go_frame
                  go_wp2_with fail
                  go_roundw
                  case rel => exact ⟨k + 1, tb, r.2.1, r.2.2, t3, A, R ++ [sx.data.toList], H ++ [sx.data.toList], S, q, by rw [HH.out, List.append_assoc], by go_num, hlt, rfl, rfl, HT3.out, HS5.out, HNEW.out.1, by rw [HNEW.out.2]; have := HLF.out; omega⟩
                  case measure =>
                    have hm : n - (k + 1) < n - k := by omega
                    simp only [intOf, Int.toNat_natCast, hm1]
                    exact hm
              · rw [hf]
                have hla2 := tlen_tape (b := b) (T := r.2.1) (W := W3) (HS3.out.all (tapeT tb b r.2.1) (by simp)).1
                rw [hc1] at hla2
                have HLA2 := Lib.hid hla2
                clear hla2
                have hcw : ((T.count : Int) + 1 != wrap64 ((T.count : Int) + 1)) = false := by
                  have h1 : wrap64 ((T.count : Int) + 1) = (T.count : Int) + 1 := by have := HB.out; have := HN.out; unfold wrap64; omega
                  rw [h1]; simp
                go_wp2_with fail
                refine HLA2.out.mono ?_
                rintro e w' ⟨rfl, rfl⟩
                go_wp2_with fail
                refine' wp_region_factsG (sz := 192) (S := (SHad w'.heap.size w' H sx)) (fun _ _ _ => True) [anyM, eqM (.slice va H.length vc), anyM, eqM _, eqM _, eqM (.pointer (some (ad.add (k * 4)))), eqM _, eqM (.string sx), anyM, anyM] (by kernel_rfl) (by kernel_rfl) rfl (guardsM_of [] (n := 10) rfl (by kernel_rfl) trivial) ?hst ?h0 (Ord.stepsG_cons ?s0 (Ord.stepsG_cons ?s1 (Ord.stepsG_cons ?s2 (Ord.stepsG_cons ?s3 (Ord.stepsG_cons ?s4 (Ord.stepsG_cons ?s5 (Ord.stepsG_cons ?s6 (Ord.stepsG_cons ?s7 (Ord.stepsG_cons ?s8 (Ord.stepsG_cons ?s9 (Ord.stepsG_nil))))))))))) ?fin
                case s0 =>
                  intro g W L hL hWt hCl hSW hd
                  try simp only [Nat.zero_add, Nat.reduceAdd] at hd ⊢
                  with_reducible refine OpGives.pre_reads [] 192 ?_ ?_ ?_
                  · rfl
                  · kernel_rfl
                  simp only [List.map_cons, List.map_nil]
                  exact OpGives.val (v := .slice (some ⟨W.heap.size, 0, none⟩) 0 0) (w' := W.alloc (.cells #[] 9)) (exec_buildSlice 28 0 #[] rfl (lit_none W ib hib _ (by simp))) ⟨trivial, trivial, had_zero hL hCl hSW (by kernel_rfl) (by kernel_rfl)⟩
                case s1 =>
                  intro g W L hL hWt hCl hSW hd
                  try simp only [Nat.zero_add, Nat.reduceAdd] at hd ⊢
                  with_reducible refine OpGives.pre_reads [] 192 ?_ ?_ ?_
                  · rfl
                  · kernel_rfl
                  simp only [List.map_cons, List.map_nil]
                  refine OpGives.val (w' := W) ?_ ⟨trivial, rfl, (SHad.keep hSW _ _ (by decide) (by decide) (by decide) (by decide))⟩
                  go_simp
                  try with_reducible rfl
                case s2 =>
                  intro g W L hL hWt hCl hSW hd
                  try simp only [Nat.zero_add, Nat.reduceAdd] at hd ⊢
                  have h0 := hd 0 (by decide) (by kernel_rfl)
                  change (anyM) (g 0) W at h0
                  have h1 : g 1 = _ := hd 1 (by decide) (by kernel_rfl)
                  with_reducible refine OpGives.pre_reads [(181, 0), (182, 1)] 192 ?_ ?_ ?_
                  · rfl
                  · kernel_rfl
                  simp only [List.map_cons, List.map_nil]
                  obtain ⟨v', W', hr, hrow, hb, hk⟩ := rows_append (hSW.2.2.1 (hWt 0 (by kernel_rfl)) hL).1 hSW.2.1 (.slice va H.length vc) H (src_of (HSRC.out W hSW.1)) (by rw [List.length_nil]; have := HB.out; have := HN.out; omega); rw [← h1] at hr; exact OpGives.val (v := v') (w' := W') (exec_append2 _ _ _ _ rfl hr) ⟨trivial, trivial, had_two hL hCl (hWt 0 (by kernel_rfl)) hSW (by kernel_rfl) (by simpa using hrow) hb hk⟩
                case s3 =>
                  intro g W L hL hWt hCl hSW hd
                  try simp only [Nat.zero_add, Nat.reduceAdd] at hd ⊢
                  with_reducible refine OpGives.pre_reads [] 192 ?_ ?_ ?_
                  · rfl
                  · kernel_rfl
                  simp only [List.map_cons, List.map_nil]
                  refine OpGives.val (w' := W) ?_ ⟨trivial, rfl, (SHad.keep hSW _ _ (by decide) (by decide) (by decide) (by decide))⟩
                  go_simp
                  try with_reducible rfl
                case s4 =>
                  intro g W L hL hWt hCl hSW hd
                  try simp only [Nat.zero_add, Nat.reduceAdd] at hd ⊢
                  with_reducible refine OpGives.pre_reads [] 192 ?_ ?_ ?_
                  · rfl
                  · kernel_rfl
                  simp only [List.map_cons, List.map_nil]
                  refine OpGives.val (w' := W) ?_ ⟨trivial, rfl, (SHad.keep hSW _ _ (by decide) (by decide) (by decide) (by decide))⟩
                  go_simp
                  try with_reducible rfl
                case s5 =>
                  intro g W L hL hWt hCl hSW hd
                  try simp only [Nat.zero_add, Nat.reduceAdd] at hd ⊢
                  have h3 : g 3 = _ := hd 3 (by decide) (by kernel_rfl)
                  have h4 : g 4 = _ := hd 4 (by decide) (by kernel_rfl)
                  with_reducible refine OpGives.pre_reads [(184, 3), (185, 4)] 192 ?_ ?_ ?_
                  · rfl
                  · kernel_rfl
                  simp only [List.map_cons, List.map_nil]
                  refine OpGives.val (w' := W) ?_ ⟨trivial, rfl, (SHad.keep hSW _ _ (by decide) (by decide) (by decide) (by decide))⟩
                  go_simp
                  try with_reducible rfl
                case s6 =>
                  intro g W L hL hWt hCl hSW hd
                  try simp only [Nat.zero_add, Nat.reduceAdd] at hd ⊢
                  have h5 : g 5 = _ := hd 5 (by decide) (by kernel_rfl)
                  with_reducible refine OpGives.pre_reads [(186, 5)] 192 ?_ ?_ ?_
                  · rfl
                  · kernel_rfl
                  simp only [List.map_cons, List.map_nil]
                  refine OpGives.val (w' := W) ?_ ⟨trivial, rfl, (SHad.keep hSW _ _ (by decide) (by decide) (by decide) (by decide))⟩
                  go_simp
                  try with_reducible rfl
                case s7 =>
                  intro g W L hL hWt hCl hSW hd
                  try simp only [Nat.zero_add, Nat.reduceAdd] at hd ⊢
                  have h6 : g 6 = _ := hd 6 (by decide) (by kernel_rfl)
                  with_reducible refine OpGives.pre_reads [(187, 6)] 192 ?_ ?_ ?_
                  · rfl
                  · kernel_rfl
                  simp only [List.map_cons, List.map_nil]
                  have c2 := (CELL.out W (HBL.out W hSW.1)).2.2.1; refine OpGives.val (v := .string sx) (w' := W) ?_ ⟨trivial, rfl, SHad.keep hSW _ _ (by decide) (by decide) (by decide) (by decide)⟩; go_simp
                case s8 =>
                  intro g W L hL hWt hCl hSW hd
                  try simp only [Nat.zero_add, Nat.reduceAdd] at hd ⊢
                  have h7 : g 7 = _ := hd 7 (by decide) (by kernel_rfl)
                  with_reducible refine OpGives.pre_reads [(188, 7)] 192 ?_ ?_ ?_
                  · rfl
                  · kernel_rfl
                  simp only [List.map_cons, List.map_nil]
                  exact OpGives.val (v := .slice (some ⟨W.heap.size, 0, none⟩) 1 1) (w' := W.alloc (.cells #[.string sx] 9)) (exec_buildSlice 28 1 _ rfl (lit_text sx W _ (by rw [h7]; simp [rdl_cons]))) ⟨trivial, trivial, had_eight hL hCl hSW (by kernel_rfl)⟩
                case s9 =>
                  intro g W L hL hWt hCl hSW hd
                  try simp only [Nat.zero_add, Nat.reduceAdd] at hd ⊢
                  have h2 := hd 2 (by decide) (by kernel_rfl)
                  change (anyM) (g 2) W at h2
                  have h8 := hd 8 (by decide) (by kernel_rfl)
                  change (anyM) (g 8) W at h8
                  with_reducible refine OpGives.pre_reads [(183, 2), (189, 8)] 192 ?_ ?_ ?_
                  · rfl
                  · kernel_rfl
                  simp only [List.map_cons, List.map_nil]
                  obtain ⟨kb, e8, hkb⟩ := hSW.2.2.2.2.1 (hWt 8 (by kernel_rfl)) hL; obtain ⟨v', W', hr, hrow, hb, _⟩ := rows_append (hSW.2.2.2.1 (hWt 2 (by kernel_rfl)) hL) hSW.2.1 (.slice (some ⟨kb, 0, none⟩) 1 1) [sx.data.toList] (.inr ⟨_, _, rfl, one_cell hkb⟩) (by rw [List.length_singleton]; have := HB.out; have := HN.out; omega); rw [← e8] at hr; exact OpGives.val (v := v') (w' := W') (exec_append2 _ _ _ _ rfl hr) ⟨trivial, trivial, had_nine hL (hWt 2 (by kernel_rfl)) hSW hrow hb⟩
                case hst =>
                  refine fun i j v w w' _ h _ => st_of (R := fun _ _ => True) ?_ i v w w' h trivial
                  repeat' first
                    | exact trivial
                    | with_reducible refine StL.eq ?_
                    | with_reducible refine StL.any ?_
                case h0 => exact ⟨(Below.refl _ _).drew, Nat.le_refl _, (fun h => by cases h), (fun h => by cases h), (fun h => by cases h), (fun h => by cases h)⟩
                case fin =>
                  intro v W L hL hSW hf
                  have hrow := hSW.2.2.2.2.2 (hL 9 (Nat.lt_of_lt_of_eq (by decide : 9 < 10) rfl))
                  have hbw : NewMem w' W := hSW.1
                  clear hf hSW hL
                  generalize hF : Ord.pre _ _ v _ = F
                  rw [Ord.pre_lit [some 181, some 182, some 183, some 184, some 185, some 186, some 187, some 188, some 189, some 190]
                    (by kernel_rfl)] at hF
                  simp only [Ord.puts, Nat.zero_add, Nat.reduceAdd] at hF
                  subst hF
                  have hs4 := HS3.out.new hbw (t := textsT (v 9) (H ++ [sx.data.toList])) (owns_low hrow) (fun k hk => (World.ownsRow.lt hrow k hk).1)
                  have hs5 := (Sep.swap hs4).tail
                  have HS5 := Lib.hid hs5
                  clear hrow hbw hs4 hs5
                  generalize v 9 = hv9 at *
                  refine any_one (i := 10) (by kernel_rfl) ?_
                  refine wpOp_value (v := hv9) (w' := W) rfl rfl (by go_simp) ?_
                  refine wpAny_done (by kernel_rfl) ?_ _
                  try simp only [List.getElem_toArray, List.getElem_cons_succ, List.getElem_cons_zero]
                  go_frame
                  go_wp2_with fail
                  go_roundw
                  case rel => exact ⟨k + 1, tb, r.2.1, r.2.2, t3, A, R ++ [sx.data.toList], H ++ [sx.data.toList], S, q, by rw [HH.out, List.append_assoc], by go_num, hlt, rfl, rfl, HT3.out, HS5.out, HNEW.out.1, by rw [HNEW.out.2]; have := HLF.out; omega⟩
                  case measure =>
                    have hm : n - (k + 1) < n - k := by omega
                    simp only [intOf, Int.toNat_natCast, hm1]
                    exact hm
    · have hdk : decide (k < n) = false := decide_eq_false hlt
      have hl := Lib.hid (lives_any wr)
      go_wp2_with fail
      refine hl.out.mono ?_
      rintro e w1 ⟨rfl, hn1⟩
      have HF := Lib.hid (show NewMem w w1 from HSEP.out.below.trans (hn1.mono HSEP.out.le))
      clear hn1 hl
      go_wp2_with fail
      go_ret
      exact ⟨rfl, HF.out⟩
end Go.Proofs.YteljihpheffjnaaDoor.Tape
/- TapeKept, walked: the guards. -/
namespace Go.Proofs.YteljihpheffjnaaDoor.Tape
open Go.RowKit Go.Proofs.YteljihpheffjnaaDoor.Ord Go.Proofs.YteljihpheffjnaaDoorW.PrintWords Go.Proofs.YteljihpheffjnaaDoor.Base Go.Proofs.YteljihpheffjnaaDoor.Drum
set_option linter.unusedVariables false
set_option linter.unusedSimpArgs false
attribute [local irreducible] OpGives

set_option maxRecDepth 100000 in
set_option maxHeartbeats 8000000 in
theorem tapeKept_walk (z : Int) (n cap : Nat) (a : Option Addr) (acts : List ActV) (w : World) (h : ActsIn w.heap.size w a n acts) :
    Calls Tryd.prog 6 #[.int .i64 z, .slice a n cap] w fun e w' => e = .returned (.bool true) ∧ NewMem w w' := by
  have hfew := few_at w.heap.size a n cap acts w h
  cases hf : fewB acts with
  | false =>
    rw [hf] at hfew
    have hl := Lib.hid (lives_any w)
    have HFEW := Lib.hid hfew
    clear hfew h
    go_enter Tryd.func6, Tryd.ntmps6
    go_wp2_with fail
    refine HFEW.out.mono ?_
    rintro e w' ⟨rfl, rfl⟩
    go_wp2_with fail
    refine hl.out.mono ?_
    rintro e w1 ⟨rfl, hn⟩
    have HN := Lib.hid hn
    clear hn
    go_wp2
    go_ret
    exact ⟨rfl, HN.out⟩
  | true =>
    rw [hf] at hfew
    by_cases hz : z < 1
    · have hd : decide (z < 1) = true := decide_eq_true hz
      have hl := Lib.hid (lives_any w)
      have HFEW := Lib.hid hfew
      clear hfew h
      go_enter Tryd.func6, Tryd.ntmps6
      go_wp2_with fail
      refine HFEW.out.mono ?_
      rintro e w' ⟨rfl, rfl⟩
      go_wp2_with fail
      refine hl.out.mono ?_
      rintro e w1 ⟨rfl, hn⟩
      have HN := Lib.hid hn
      clear hn
      go_wp2
      go_ret
      exact ⟨rfl, HN.out⟩
    · by_cases hz2 : 60 < z
      · have hd : decide (z < 1) = false := decide_eq_false hz
        have hd2 : decide (60 < z) = true := decide_eq_true hz2
        have hl := Lib.hid (lives_any w)
        have HFEW := Lib.hid hfew
        clear hfew h
        go_enter Tryd.func6, Tryd.ntmps6
        go_wp2_with fail
        refine HFEW.out.mono ?_
        rintro e w' ⟨rfl, rfl⟩
        go_wp2_with fail
        refine hl.out.mono ?_
        rintro e w1 ⟨rfl, hn⟩
        have HN := Lib.hid hn
        clear hn
        go_wp2
        go_ret
        exact ⟨rfl, HN.out⟩
      · obtain ⟨N, rfl⟩ : ∃ N : Nat, z = N := ⟨z.toNat, by omega⟩
        exact tapeKept_in N n cap a acts w (by omega) h hf
end Go.Proofs.YteljihpheffjnaaDoor.Tape
