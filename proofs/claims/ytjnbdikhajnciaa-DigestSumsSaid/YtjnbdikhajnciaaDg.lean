/- Walks of the digest: all whole blocks of a text. -/
import Derived.Test.YtjnbdikhajnciaaDf
import Derived.Test.YtjnbdikhajnciaaOrd
import Derived.Lib.Strings
namespace Go.Proofs.Ytjnbdikhajnciaa.Dig
open Go.RowKit Go.Proofs.Ytjnbdikhajnciaa.Sha Go.Proofs.Ytjnbdikhajnciaa.Ord

/-- What 'blocks' has in memory. -/
structure Bn (w wr : World) (D : Nat) (x : S8) : Prop where
  st : Row 35 wr w.heap.size (S8.words x)
  out : Row 35 wr (w.heap.size + 1) (List.replicate 8 0)
  ks : Row 109 wr D K
  far : w.heap.size + 1 < D
  below : Below w.heap.size w wr
theorem Bn.drewN {w wr : World} {D n : Nat} {x : S8} (h : Bn w wr D x) : Bn w (wr.drewN n) D x := ⟨h.st, h.out, h.ks, h.far, below_drewN' h.below⟩

theorem rangeAt_below {w w' : World} {b o B : Nat} {cs : List Value} (h : w.rangeAt b o cs) (hb : Below B w w') (hlt : b < B) : w'.rangeAt b o cs := fun j v hv => by
  rw [hb.cell (p := ⟨b, o + j, none⟩) hlt]; exact h j v hv
theorem rangeAt_setCell {w : World} {b o : Nat} {cs : List Value} (h : w.rangeAt b o cs) (a : Addr) (v : Value) (hne : a.block ≠ b) : (w.setCell a v).rangeAt b o cs := fun j u hv => by
  rw [World.cell?_setCell_other _ _ _ _ (fun e => hne (by rw [e]))]; exact h j u hv

theorem results_row_tmp {P : Program} {fn : Func} {p q : Tmp} {ty : TypeId} (h : fn.results = #[.cell p ty, .tmp q]) (tmps : Array Value) (w : World) (g : Nat) (t : TypeId) (cs : Array Value) (fr : Nat × Nat) (d : TypeDesc)
    (hp : tmps.getD p undef = .pointer (some ⟨g, 0, none⟩)) (hg : w.heap[g]? = some (.cells cs t fr))
    (hu : P.underlying ty = some d) (hd : (match d with | .struct _ | .array _ _ => true | _ => false) = true) (hi : (P.info? ty).map (·.size) = some cs.size) :
    (results fn tmps).run P w = .ok (.tuple #[.agg cs, tmps.getD q undef]) w := by
  rw [results_cell_tmp h, hp]
  simp [asAddr, run_loadVar_row w g t ty cs fr d hg hu hd hi]

set_option maxRecDepth 100000 in
set_option maxHeartbeats 8000000 in
theorem blocks_any (x : S8) (s : ByteArray) (hs : s.size ≤ 1000000) (w : World) :
    Calls Try.prog 47 #[.agg x.cells.toArray, .string s] w fun e w' =>
      (∃ r : ByteArray, e = .returned (.tuple #[.agg (run x (s.size / 64) s.data.toList).cells.toArray, .string r]) ∧ r.data.toList = s.data.toList.drop (64 * (s.size / 64))) ∧ Below w.heap.size w w' := by
  go_enter Try.func47, Try.ntmps47
  go_wp2_with fail
  refine (numbers_any _).mono ?_
  rintro e w1 ⟨rfl, hb1⟩
  have r0 : Row 35 w1 w.heap.size (S8.words x) := (hb1.block _ (by simp; omega)).trans (heap2_0 w _ _)
  have r1 : Row 35 w1 (w.heap.size + 1) (List.replicate 8 0) := (hb1.block _ (by simp)).trans (heap2_1 w _ _)
  have hb2 : Below w.heap.size w w1 := (((Below.refl _ _).alloc (Nat.le_refl _) _).alloc (by simp) _).trans (hb1.mono (by simp; omega))
  clear hb1
  go_wp2_with (refine wpList_store_row rfl 109 _ _ rfl w1.heap.size (Us K).toArray rfl rfl 109 _ (heap_alloc_last w1 _) info109 rfl all_K ?_; rw [World.setRow_alloc_new])
  obtain ⟨D, hD⟩ : ∃ D : Nat, D = w1.heap.size := ⟨_, rfl⟩
  have hB : Bn w (w1.alloc (.cells (Us K).toArray 109)) D x := by
    subst hD
    exact ⟨r0.alloc _, r1.alloc _, Row.new _ _ _, r1.lt, hb2.alloc (by have := r0.lt; omega) _⟩
  rw [← hD]
  generalize w1.alloc (.cells (Us K).toArray 109) = w2 at *
  clear r0 r1 hb2 hD
  go_frame
  go_loopw [1] (fun v wr => ∃ (t : ByteArray) (n : Nat), v = .string t ∧ Hid (t.data.toList = s.data.toList.drop (64 * n)) ∧ Hid (64 * n + t.size = s.size) ∧ Bn w wr D (run x n s.data.toList)) (fun v _ => match v with | .string t => t.size | _ => 0)
  case atStart => exact ⟨s, 0, rfl, Lib.hid (by simp), Lib.hid (by simp), hB⟩
  case round =>
    clear hB
    obtain ⟨t, n, rfl, ht, hn, hB⟩ := hrel
    have hts : t.size ≤ 1000000 := by have := hn.out; omega
    by_cases hlt : 64 ≤ t.size
    · go_wp2_with fail
      generalize hst : run x n s.data.toList = st at *
      have HST := Lib.hid hst
      clear hst
      have hbs : (t.extract 0 64).size = 64 := by simp [ByteArray.size_extract]; omega
      have hbl : (t.extract 0 64).data.toList = (s.data.toList.drop (64 * n)).take 64 := by rw [← ht.out]; simp
      have hcl : (t.extract 64 t.size).data.toList = s.data.toList.drop (64 * (n + 1)) := by
        rw [show 64 * (n + 1) = 64 * n + 64 by omega, ← List.drop_drop, ← ht.out, Lib.extract_data, List.take_of_length_le (by simp)]
      have hcs : 64 * (n + 1) + (t.extract 64 t.size).size = s.size := by have := hn.out; simp [ByteArray.size_extract]; omega
      have hlt' : (64 : Int) ≤ (t.size : Int) := by omega
      have HBS := Lib.hid hbs
      have HBL := Lib.hid hbl
      have HCL := Lib.hid hcl
      have HCS := Lib.hid hcs
      clear hbs hbl hcl hcs
      refine wp_region_any (by kernel_rfl) ?_
      change wpAny _ _ _ _ _ _ _ wr.drew
      refine wpAny_take (i := 2) (v := .string t) rfl (by kernel_rfl) (by kernel_rfl) (by kernel_rfl) (fun _ _ _ h => h) (Or.inl ⟨by rfl, fun wx => by go_simp⟩) ?_
      refine wpAny_take (i := 5) (v := .string t) rfl (by kernel_rfl) (by kernel_rfl) (by kernel_rfl) (fun _ _ _ h => h) (Or.inl ⟨by rfl, fun wx => by go_simp⟩) ?_
      refine wpAny_take (i := 3) (v := .string (t.extract 0 64)) rfl (by kernel_rfl) (by kernel_rfl) (by kernel_rfl) (fun _ _ _ h => h) (Or.inl ⟨by rfl, fun wx => by go_simp⟩) ?_
      refine wpAny_take (i := 6) (v := .string (t.extract 64 t.size)) rfl (by kernel_rfl) (by kernel_rfl) (by kernel_rfl) (fun _ _ _ h => h) (Or.inl ⟨by rfl, fun wx => by go_simp⟩) ?_
      refine any_two (i := 0) (j := 1) (by decide) (by kernel_rfl) (by kernel_rfl) (by kernel_rfl) rfl rfl rfl rfl (by kernel_rfl) (by kernel_rfl)
        (exec_load_row 35 _ rfl w.heap.size rfl _ _ _ _ hB.st Try.underlying35 rfl (by rw [info35]; rfl))
        (exec_load_row 109 _ rfl D rfl _ _ _ _ hB.ks Try.underlying109 rfl info109) ?_
      refine any_one (i := 4) (by kernel_rfl) ?_
      refine wpOp_at rfl rfl (fun K0 hK0 => ?_)
      go_frame
      go_simp
      refine (turn_any st _ HBS.out _).mono ?_
      rintro e w3 ⟨rfl, hb3⟩
      refine hK0 _ _ ?_
      clear hK0 K0
      have h0 : Row 35 w3 w.heap.size (S8.words st) := (hB.st.drew).below hb3 hB.st.lt
      have h1 : Row 35 w3 (w.heap.size + 1) (List.replicate 8 0) := (hB.out.drew).below hb3 hB.out.lt
      have h2 : Row 109 w3 D K := (hB.ks.drew).below hb3 hB.ks.lt
      refine any_one (i := 7) (by kernel_rfl) ?_
      refine wpOp_skip (w' := w3.setRow w.heap.size (turn st (t.extract 0 64).data.toList).cells.toArray) rfl rfl (exec_store_row 35 _ _ rfl w.heap.size _ rfl rfl _ _ h0 (by rw [info35]; rfl) (by simp [Us, S8.words, S8.cells]) (S8.all _)) ?_
      refine any_one (i := 8) (by kernel_rfl) ?_
      refine wpOp_value (v := .string (t.extract 64 t.size)) (w' := w3.setRow w.heap.size (turn st (t.extract 0 64).data.toList).cells.toArray) rfl rfl (by rfl) ?_
      refine wpAny_done (by kernel_rfl) ?_ _
      simp only [List.getElem_toArray, List.getElem_cons_succ, List.getElem_cons_zero]
      go_frame
      go_wp2_with fail
      go_roundw
      case rel =>
        refine ⟨_, n + 1, rfl, HCL, HCS, ?_⟩
        have hf := hB.far
        have hz : turn st (t.extract 0 64).data.toList = run x (n + 1) s.data.toList := by
          rw [HBL.out, run_add x n 1, HST.out]; rfl
        rw [hz]
        exact ⟨setRow_heap _ _ _ _ _ _ h0, (setRow_other _ _ _ _ (by omega)).trans h1, (setRow_other _ _ _ _ (by omega)).trans h2, hf, hB.below.trans ((below_drewN' (n := 1) (Below.refl _ _)).trans ((hb3.mono (by have := hB.st.lt; show w.heap.size ≤ wr.heap.size; omega)).trans ⟨rfl, rfl, rfl, by simp, fun j hj => setRow_other _ _ _ _ (by omega)⟩))⟩
      case measure => simp [ByteArray.size_extract]; omega
    · have hd : decide ((64 : Int) ≤ (t.size : Int)) = false := decide_eq_false (by omega)
      have hn64 : n = s.size / 64 := by have := hn.out; omega
      have hrun : run x n s.data.toList = run x (s.size / 64) s.data.toList := by rw [hn64]
      have hdrop : t.data.toList = s.data.toList.drop (64 * (s.size / 64)) := by rw [← hn64]; exact ht.out
      rw [hrun] at hB
      have HR := Lib.hid hdrop
      clear hn64 hrun hdrop ht hn
      generalize hst : run x (s.size / 64) s.data.toList = st at *
      have HST := Lib.hid hst
      clear hst
      go_wp2_with (first
        | (refine wpList_load_row rfl 35 _ rfl w.heap.size rfl 35 _ (0, 0) _ hB.st Try.underlying35 rfl (by rw [info35]; rfl) ?_)
        | (refine wpList_store_row rfl 35 _ _ rfl (w.heap.size + 1) (S8.cells st).toArray rfl rfl 35 _ hB.out (by rw [info35]; rfl) (by simp [Us, S8.cells]) (S8.all _) ?_))
      refine bodyPost_ret (v := .tuple #[.agg st.cells.toArray, .string t]) (results_row_tmp (p := 4) (q := 5) rfl _ _ (w.heap.size + 1) 35 st.cells.toArray (0, 0) _ rfl (setRow_heap _ _ _ _ _ _ hB.out) Try.underlying35 rfl (by rw [info35]; rfl)) rfl ⟨⟨t, ?_, HR.out⟩, ?_⟩
      · rw [HST.out]
      · exact hB.below.trans ⟨rfl, rfl, rfl, by simp, fun j hj => setRow_other _ _ _ _ (by omega)⟩
end Go.Proofs.Ytjnbdikhajnciaa.Dig
