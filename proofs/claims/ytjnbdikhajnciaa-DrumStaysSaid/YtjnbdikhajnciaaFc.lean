/- The document's drum: New. -/
import Derived.Test.YtjnbdikhajnciaaFb
namespace Go.Proofs.Ytjnbdikhajnciaa.Drum
open Go.RowKit Go.Proofs.Ytjnbdikhajnciaa.Ord Go.Proofs.YtjnbdikhajnciaaW.PrintWords Go.Proofs.Ytjnbdikhajnciaa.Base
set_option linter.unusedVariables false
set_option linter.unusedSimpArgs false
attribute [local go_sem] rdl_const rdl_func rdl_global rdl_nil rdl_cons

/-- A slice of one new element, in a block of its own. -/
def newsG (lv : Value) (E : TypeId) (xs : List Value) : Fact (Mod (fun k => lv.ownBlock = some k)) :=
  ⟨fun v W => ∃ x, v = .slice (some ⟨x, 0, none⟩) 1 1 ∧ W.heap[x]? = some (.cells xs.toArray E (0, 0)) ∧ lv.ownBlock ≠ some x,
   fun v W W' ⟨x, hv, hx, hn⟩ hm => ⟨x, hv, (hm.block x (Array.getElem?_eq_some_iff.1 hx).1 hn).trans hx, hn⟩⟩
/-- A slice, one element longer. -/
def AppendedG (E : TypeId) (s : Nat) (w3 : World) (lv : Value) (n : Nat) (xs : List Value) (v : Value) (W : World) : Prop :=
  ∃ h cap, v = .slice (some ⟨h, 0, none⟩) (n + 1) cap ∧ W.ownsRow 0 E s v (n + 1) xs ∧ (lv.ownBlock = some h ∨ w3.heap.size ≤ h)
theorem append_one {t E : TypeId} {z : Value} {size bytes : Nat} (ht : Try.prog.underlying t = some (.slice E)) (hi : (Try.prog.info? E).map (fun i => (i.zero, i.size, i.bytes)) = some (some z, size, bytes)) (hz : z.cells.size = size) (hs : 0 < size) (hb : bytes ≤ 1000)
    {lv : Value} {n : Nat} {xs news : List Value} (hn : n ≤ 1000000) (hl : news.length = size) (h1 : ∀ u ∈ news, u.oneCell' = true) {w3 W : World} {v6 : Value}
    (hS : Mod (fun k => lv.ownBlock = some k) w3 W) (hA : W.ownsRow 0 E size lv n xs) (h6 : (newsG lv E news).p v6 W) (ty : TypeId) :
    ∃ v W', (Builtin.append_ #[t, t] ty #[lv, v6]).run Try.prog W = .ok v W' ∧ Mod (fun k => lv.ownBlock = some k) W W' ∧ AppendedG E size w3 lv n (xs ++ news) v W' := by
  obtain ⟨x, rfl, hx, hne⟩ := h6
  obtain ⟨i0, hi0, hz0, hz1, hz2⟩ := info_parts hi
  have hbn : (n + 1) * bytes ≤ 1000001 * 1000 := Nat.mul_le_mul (by omega) hb
  obtain ⟨h, cap, W', hr, hown, hg, hat, _⟩ := run_append_lies (P := Try.prog) W t ty 0 E i0 _ size bytes ht hi0 hz0 hz1 hz2 hz hs lv n _ hA ⟨x, 0, none⟩ 1 1 news
    (by omega) (World.news_of_block (cs := news.toArray) hx) h1 (by decide) (by unfold maxLen; omega) (by omega) (Nat.zero_le _) W.heap.size rfl
  refine ⟨_, W', hr, Mod.of_grown hg (fun k hk => hk), h, cap, rfl, hown, ?_⟩
  rcases hat with hat | hat
  · exact .inl hat
  · exact .inr (by rw [hat]; exact hS.size)
/-- Bytes of a row's own, apart from another row. -/
def ownS (lv : Value) (l : List UInt8) : Fact (Mod (fun k => lv.ownBlock = some k)) :=
  ⟨fun v W => OwnB W v l ∧ ∀ k, v.ownBlock = some k → lv.ownBlock ≠ some k, fun v W W' ⟨h, hn⟩ hm => ⟨ownsRow_mod h hm hn, hn⟩⟩
/-- A sector of zeros. -/
def zsec : ByteArray := ⟨(List.replicate 64 (0 : UInt8)).toArray⟩
def RS.zero (n : Nat) : RS := ⟨List.replicate n zsec, [], -1, false⟩
theorem rnew_bad (n : Int) (h : n < 1 ∨ 4096 < n) (w : World) : Calls Try.prog 37 #[.int .i64 n] w fun e w' => e = .returned (.tuple #[.pointer none, .int .i64 2]) ∧ w = w' := by
  rcases h with h | h
  · go_enter Try.func37, Try.ntmps37
    go_wp2
    go_ret2
    exact ⟨rfl, rfl⟩
  · have h2 : ¬ n < 1 := by omega
    go_enter Try.func37, Try.ntmps37
    go_wp2
    go_ret2
    exact ⟨rfl, rfl⟩
/-- The document's drum, so many of its sectors laid. -/
def Laid (w : World) (b k : Nat) (wr : World) : Prop := ∃ sv, RefAt wr b sv (.slice none 0 0) (RS.zero k) ∧ (∀ j, sv.ownBlock = some j → w.heap.size ≤ j) ∧ NewMem w wr
def RNewAt (n : Nat) (w : World) (e : Ending) (w' : World) : Prop := ∃ b, e = .returned (.tuple #[.pointer (some ⟨b, 0, none⟩), .int .i64 0]) ∧ w.heap.size ≤ b ∧ Laid w b n w'
theorem strCells_snoc (l : List ByteArray) (s : ByteArray) : strCells (l ++ [s]) = strCells l ++ [.string s] := by simp [strCells]
theorem zeros_snoc (k : Nat) : strCells (RS.zero (k + 1)).S = strCells (RS.zero k).S ++ [.string zsec] := by
  unfold RS.zero; simp only [List.replicate_succ']; rw [strCells_snoc]
theorem Laid.more {w wr W : World} {b k : Nat} {sv v : Value} (h : RefAt wr b sv (.slice none 0 0) (RS.zero k)) (hk : k < 4096) (hb : w.heap.size ≤ b) (hsv : ∀ j, sv.ownBlock = some j → w.heap.size ≤ j) (hn : NewMem w wr)
    (hm : Mod (fun k => sv.ownBlock = some k) wr W) (ha : AppendedG 9 1 wr sv k (strCells (RS.zero (k + 1)).S) v W) : Laid w b (k + 1) (W.setCell ⟨b, 0, none⟩ v) := by
  obtain ⟨g, cp, rfl, hown, hat⟩ := ha
  have hgb : g ≠ b := by
    rcases hat with e | e
    · intro x; exact h.neS (by rw [e, x])
    · have := h.cell.lt; omega
  have hc := h.cell.kept hm h.neS
  have hm2 : Mod (fun i => i = b) W (W.setCell ⟨b, 0, none⟩ (.slice (some ⟨g, 0, none⟩) (k + 1) cp)) := Mod.setCell _ _ _ rfl
  refine ⟨.slice (some ⟨g, 0, none⟩) (k + 1) cp, ⟨hc.set0 _, ?_, World.ownsRow_nil _ _ _ _, by simp [RS.zero]; omega, by simp [RS.zero], fun q hq => by cases hq⟩, fun j hj => ?_, ?_⟩
  · have := ownsRow_mod hown hm2 (fun k hk e => hgb (by simp [Value.ownBlock] at hk; omega))
    have e : (RS.zero (k + 1)).S.length = k + 1 := by simp [RS.zero]
    rw [e]; exact this
  · simp [Value.ownBlock] at hj
    subst hj
    rcases hat with e | e
    · exact hsv _ e
    · have := hn.size; omega
  · have h1 : Mod (fun i => sv.ownBlock = some i ∨ i = b) wr W := hm.mono (fun _ e => .inl e)
    have h2 := h1.trans (hm2.mono (fun _ e => Or.inr e) : Mod (fun i => sv.ownBlock = some i ∨ i = b) _ _) (fun _ e => .inl e)
    exact Below.trans hn (h2.below hn.size (fun i e => by rcases e with e | e; exact hsv i e; omega))
set_option maxRecDepth 100000 in
set_option maxHeartbeats 8000000 in
theorem rnew_ok (n : Nat) (h0 : 0 < n) (hn : n ≤ 4096) (w : World) : Calls Try.prog 37 #[.int .i64 (n : Int)] w (RNewAt n w) := by
  have hlt : ¬ (n : Int) < 1 := by omega
  have hgt : ¬ (n : Int) > 4096 := by omega
  go_enter Try.func37, Try.ntmps37
  go_wp2_with fail
  obtain ⟨b, hb⟩ : ∃ b, b = w.heap.size := ⟨_, rfl⟩
  rw [← hb]
  have HB := Lib.hid hb
  clear hb
  go_loopw [5] (fun i wr => ∃ k : Nat, k ≤ n ∧ i = .int .i64 (k : Int) ∧ Laid w b k wr) (fun i _ => n - (intOf i).toNat)
  case atStart =>
    refine ⟨0, Nat.zero_le _, rfl, .slice none 0 0, ⟨?_, World.ownsRow_nil _ _ _ _, World.ownsRow_nil _ _ _ _, by simp [RS.zero], by simp [RS.zero], fun q hq => by cases hq⟩, fun j hj => by simp [Value.ownBlock] at hj, NewMem.alloc _ _⟩
    rw [HB.out]; exact heap_alloc_last _ _
  case round =>
    obtain ⟨k, hk, rfl, hlaid⟩ := hrel
    by_cases hlk : k < n
    · obtain ⟨sv, hr, hsv, hnw⟩ := hlaid
      obtain ⟨as1, cs1, hsvf, _⟩ := ownsRow_slice hr.s
      have hkl : (RS.zero k).S.length = k := by simp [RS.zero]
      rw [hkl] at hsvf
      have HR := Lib.hid hr
      have HSV := Lib.hid hsv
      have HNW := Lib.hid hnw
      have HKL := Lib.hid hkl
      have HSF := Lib.hid hsvf
      clear hr hsv hnw hkl hsvf
      have far : ∀ W, Mod (fun k => sv.ownBlock = some k) wr W → RCell W b sv (.slice none 0 0) (-1) false ∧ (∀ k, sv.ownBlock = some k → k < W.heap.size) := fun W hW =>
        ⟨HR.out.cell.kept hW HR.out.neS, fun k hk => Nat.lt_of_lt_of_le (HR.out.s.lt k hk).2 hW.size⟩
      have FAR := Lib.hid far
      clear far
      have hmk := make_bytes 64 (by omega)
      have HMK := Lib.hid hmk
      clear hmk
      go_wp2_with fail
      refine' wp_region_factsD 8 (S := (fun W => Mod (fun k => sv.ownBlock = some k) wr W)) (A := (fun W => W.ownsRow 0 9 1 sv k (strCells (RS.zero k).S))) (R := (Mod (fun k => sv.ownBlock = some k))) (R0 := NewMem) (pd := (AppendedG 9 1 wr sv k (strCells (RS.zero (k + 1)).S))) [eqF _ _, eqF _ _, eqF _ _, eqF _ _, eqF _ sv, ownS sv (List.replicate 64 0), eqF _ (.string zsec), newsG sv 9 [.string zsec], noF _] (by kernel_rfl) (by kernel_rfl) ?hS ?hA ?hR ?hpd ?h0 (stepsD_cons ?s0 (stepsD_cons ?s1 (stepsD_cons ?s2 (stepsD_cons ?s3 (stepsD_cons ?s4 (stepsD_cons ?s5 (stepsD_cons ?s6 (stepsD_cons ?s7 (stepsD_cons ?s8 (stepsD_nil)))))))))) ?fin
      case s0 =>
        intro g W hSW _ hd
        refine OpGives.ne (by decide) ?_
        try simp only [Nat.zero_add, Nat.reduceAdd] at hd ⊢
        with_reducible refine OpGives.pre_reads [] 31 ?_ ?_ ?_
        · rfl
        · kernel_rfl
        simp only [List.map_cons, List.map_nil]
        refine OpGives.val (w' := W) ?_ ⟨NewMem.refl _, rfl⟩
        go_simp
        try with_reducible rfl
      case s1 =>
        intro g W hSW _ hd
        refine OpGives.ne (by decide) ?_
        try simp only [Nat.zero_add, Nat.reduceAdd] at hd ⊢
        with_reducible refine OpGives.pre_reads [] 31 ?_ ?_ ?_
        · rfl
        · kernel_rfl
        simp only [List.map_cons, List.map_nil]
        refine OpGives.val (w' := W) ?_ ⟨NewMem.refl _, rfl⟩
        go_simp
        try with_reducible rfl
      case s2 =>
        intro g W hSW _ hd
        refine OpGives.ne (by decide) ?_
        try simp only [Nat.zero_add, Nat.reduceAdd] at hd ⊢
        have h1 : g 1 = _ := hd 1 (by decide) (by kernel_rfl)
        with_reducible refine OpGives.pre_reads [(20, 1)] 31 ?_ ?_ ?_
        · rfl
        · kernel_rfl
        simp only [List.map_cons, List.map_nil]
        refine OpGives.val (w' := W) ?_ ⟨NewMem.refl _, rfl⟩
        go_simp
        try with_reducible rfl
      case s3 =>
        intro g W hSW _ hd
        refine OpGives.ne (by decide) ?_
        try simp only [Nat.zero_add, Nat.reduceAdd] at hd ⊢
        have h2 : g 2 = _ := hd 2 (by decide) (by kernel_rfl)
        with_reducible refine OpGives.pre_reads [(21, 2)] 31 ?_ ?_ ?_
        · rfl
        · kernel_rfl
        simp only [List.map_cons, List.map_nil]
        refine OpGives.val (w' := W) ?_ ⟨NewMem.refl _, rfl⟩
        go_simp
        try with_reducible rfl
      case s4 =>
        intro g W hSW _ hd
        refine OpGives.ne (by decide) ?_
        try simp only [Nat.zero_add, Nat.reduceAdd] at hd ⊢
        have h3 : g 3 = _ := hd 3 (by decide) (by kernel_rfl)
        with_reducible refine OpGives.pre_reads [(22, 3)] 31 ?_ ?_ ?_
        · rfl
        · kernel_rfl
        simp only [List.map_cons, List.map_nil]
        have c1 := (FAR.out W hSW).1.cells.1; refine OpGives.val (w' := W) ?_ ⟨NewMem.refl _, rfl⟩; go_simp
      case s5 =>
        intro g W hSW _ hd
        refine OpGives.ne (by decide) ?_
        try simp only [Nat.zero_add, Nat.reduceAdd] at hd ⊢
        with_reducible refine OpGives.pre_reads [] 31 ?_ ?_ ?_
        · rfl
        · kernel_rfl
        simp only [List.map_cons, List.map_nil]
        obtain ⟨w', hr, hown, hnew⟩ := HMK.out W; refine OpGives.val (v := .slice (some ⟨W.heap.size, 0, none⟩) 64 64) (w' := w') ?_ ⟨hnew, hown, fun k hk e => absurd ((FAR.out W hSW).2 k e) (by simp [Value.ownBlock] at hk; omega)⟩; (have hr' : (Instr.makeSlice 87 (.int .i64 64) (.int .i64 64)).run Try.prog W = _ := hr); go_simp
      case s6 =>
        intro g W hSW _ hd
        refine OpGives.ne (by decide) ?_
        try simp only [Nat.zero_add, Nat.reduceAdd] at hd ⊢
        have h5 := hd 5 (by decide) (by kernel_rfl)
        change (ownS sv (List.replicate 64 0)).p (g 5) W at h5
        with_reducible refine OpGives.pre_reads [(24, 5)] 31 ?_ ?_ ?_
        · rfl
        · kernel_rfl
        simp only [List.map_cons, List.map_nil]
        have hc := OwnB.string h5.1; (rw [show (⟨(List.replicate 64 (0 : UInt8)).toArray⟩ : ByteArray) = zsec from rfl] at hc); refine OpGives.val (v := .string zsec) (w' := W) ?_ ⟨NewMem.refl _, rfl⟩; go_simp
      case s7 =>
        intro g W hSW _ hd
        refine OpGives.ne (by decide) ?_
        try simp only [Nat.zero_add, Nat.reduceAdd] at hd ⊢
        have h6 : g 6 = _ := hd 6 (by decide) (by kernel_rfl)
        with_reducible refine OpGives.pre_reads [(25, 6)] 31 ?_ ?_ ?_
        · rfl
        · kernel_rfl
        simp only [List.map_cons, List.map_nil]
        refine OpGives.val (v := .slice (some ⟨W.heap.size, 0, none⟩) 1 1) (w' := W.alloc (.cells #[.string zsec] 9)) ?_ ⟨NewMem.alloc _ _, W.heap.size, rfl, heap_alloc_last W _, fun e => absurd ((FAR.out W hSW).2 _ e) (by omega)⟩; go_simp
      case s8 =>
        intro g W hSW hAW hd
        refine OpGives.eqd ?_
        have hAW := hAW rfl
        try simp only [Nat.zero_add, Nat.reduceAdd] at hd ⊢
        have h4 : g 4 = _ := hd 4 (by decide) (by kernel_rfl)
        have h7 := hd 7 (by decide) (by kernel_rfl)
        change (newsG sv 9 [.string zsec]).p (g 7) W at h7
        with_reducible refine OpGives.pre_reads [(23, 4), (26, 7)] 31 ?_ ?_ ?_
        · rfl
        · kernel_rfl
        simp only [List.map_cons, List.map_nil]
        obtain ⟨v, W', hr, hR, hp⟩ := append_one Try.underlying25 info_str rfl (by decide) (by decide) (by omega) rfl (by simp [Value.oneCell']) hSW hAW h7 25; rw [← h4] at hr; rw [← zeros_snoc] at hp; exact OpGives.val (v := v) (w' := W') (exec_append _ _ _ rfl hr) ⟨hR, trivial, hp⟩
      case hS => exact fun a c h k => Mod.trans h k (fun _ e => .inl e)
      case hA => exact fun a c h k => ownsRow_mod h (Mod.of_below (F := fun _ => False) k) (fun _ _ => id)
      case hR => exact fun a c h => Mod.of_below h
      case hpd => exact fun v a c ⟨x, cp, e, ho, hx⟩ k => ⟨x, cp, e, ownsRow_mod ho (Mod.of_below (F := fun _ => False) k) (fun _ _ => id), hx⟩
      case h0 => exact ⟨Mod.drew (Mod.refl _ _), by have := HR.out.s; rw [HKL.out] at this; exact ownsRow_mod this (Mod.drew (Mod.refl (fun _ => False) _)) (fun _ _ => id)⟩
      case fin =>
        intro v W hSW hf hpd
        have h0 : v 0 = _ := hf 0 (Nat.lt_of_lt_of_eq (by decide : 0 < 9) rfl)
        have h8 := hpd (Nat.lt_of_lt_of_eq (by decide : 8 < 9) rfl)
        clear hf hpd
        generalize hF : Ord.pre _ _ v _ = F
        rw [Ord.pre_lit [some 19, some 20, some 21, some 22, some 23, some 24, some 25, some 26, some 27]
          (by kernel_rfl)] at hF
        simp only [Ord.puts, Nat.zero_add, Nat.reduceAdd] at hF
        subst hF
        rw [h0]
        obtain ⟨x7, c7, e7, h7'⟩ := h8
        have h8 : AppendedG 9 1 wr sv k (strCells (RS.zero (k + 1)).S) (v 8) W := ⟨x7, c7, e7, h7'⟩
        have hdone := Laid.more HR.out (by omega) (by have := HB.out; omega) HSV.out HNW.out hSW h8
        have HD := Lib.hid hdone
        rw [e7] at HD ⊢
        have c1 := (FAR.out W hSW).1.cells.1
        have f1 := (FAR.out W hSW).1.free 0
        clear hdone h8 h7' e7
        refine any_one (i := 9) (by kernel_rfl) ?_
        refine wpOp_value (v := .pointer (some ⟨b, 0, none⟩)) (w' := W) rfl rfl (by go_simp) ?_
        refine any_one (i := 10) (by kernel_rfl) ?_
        refine wpOp_value (v := .pointer (some ⟨b, 0, none⟩)) (w' := W) rfl rfl (by go_simp) ?_
        refine any_one (i := 11) (by kernel_rfl) ?_
        refine wpOp_skip (w' := W.setCell ⟨b, 0, none⟩ (.slice (some ⟨x7, 0, none⟩) (k + 1) c7)) rfl rfl (by go_simp) ?_
        refine wpAny_done (by kernel_rfl) ?_ _
        simp only [List.getElem_toArray, List.getElem_cons_succ, List.getElem_cons_zero]
        go_frame
        clear c1 f1
        generalize W.setCell ⟨b, 0, none⟩ (.slice (some ⟨x7, 0, none⟩) (k + 1) c7) = W2 at *
        go_wp2_with fail
        go_roundw
        case rel => exact ⟨k + 1, by omega, by go_num, HD.out⟩
        case measure => simp [intOf]; omega
    · obtain rfl : k = n := by omega
      have HL := Lib.hid hlaid
      clear hlaid
      go_wp2_with fail
      go_ret2
      exact ⟨b, rfl, by have := HB.out; omega, HL.out⟩
end Go.Proofs.Ytjnbdikhajnciaa.Drum
