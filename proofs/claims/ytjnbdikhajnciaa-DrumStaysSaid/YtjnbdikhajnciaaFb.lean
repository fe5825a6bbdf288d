/- The document's drum: Write, New. -/
import Derived.Test.YtjnbdikhajnciaaFa
namespace Go.Proofs.Ytjnbdikhajnciaa.Drum
open Go.RowKit Go.Proofs.Ytjnbdikhajnciaa.Ord Go.Proofs.YtjnbdikhajnciaaW.PrintWords Go.Proofs.Ytjnbdikhajnciaa.Base
set_option linter.unusedVariables false
set_option linter.unusedSimpArgs false
attribute [local go_sem] rdl_const rdl_func rdl_global rdl_nil rdl_cons

theorem info_put : (Try.prog.info? 115).map (fun i => (i.zero, i.size, i.bytes)) = some (some (.agg #[.int .i64 0, .string ByteArray.empty]), 2, 24) := by kernel_rfl
theorem info_str : (Try.prog.info? 9).map (fun i => (i.zero, i.size, i.bytes)) = some (some (.string ByteArray.empty), 1, 16) := by kernel_rfl
theorem putCells_snoc (l : List (Int × ByteArray)) (q : Int × ByteArray) : putCells (l ++ [q]) = putCells l ++ [.int .i64 q.1, .string q.2] := by simp [putCells]
def RS.write (R : RS) (i : Int) (s : ByteArray) : Int × RS :=
  if i < 0 ∨ (R.S.length : Int) ≤ i ∨ s.size ≠ 64 then (2, R) else if R.burnt.1 then (9, R.burnt.2) else (0, { R.burnt.2 with W := R.W ++ [(i, s)] })
theorem RefAt.pushed {w1 w' : World} {b : Nat} {sv wv : Value} {R : RS} {i : Int} {s : ByteArray} {g cap : Nat} (h : RefAt w1 b sv wv R) (hf : R.W.length < 1000000) (hi : 0 ≤ i ∧ i < (R.S.length : Int))
    (hm : Mod (fun k => wv.ownBlock = some k) w1 w') (hown : w'.ownsRow 0 115 2 (.slice (some ⟨g, 0, none⟩) (R.W.length + 1) cap) (R.W.length + 1) (putCells R.W ++ [.int .i64 i, .string s]))
    (hat : wv.ownBlock = some g ∨ w1.heap.size ≤ g) :
    RDid w1 b sv wv { R with W := R.W ++ [(i, s)] } (w'.setCell ⟨b, 1, none⟩ (.slice (some ⟨g, 0, none⟩) (R.W.length + 1) cap)) := by
  have hc' := h.cell.kept hm h.neW
  have hgb : g ≠ b := by
    rcases hat with e | e
    · intro x; exact h.neW (by rw [e, x])
    · have := h.cell.lt; omega
  have hs' := ownsRow_mod h.s hm (fun k hk => ownsRow_apart h.s h.w (by decide) k hk)
  have hmb : Mod (fun k => k = b) w' (w'.setCell ⟨b, 1, none⟩ (.slice (some ⟨g, 0, none⟩) (R.W.length + 1) cap)) := Mod.setCell _ _ _ rfl
  refine ⟨sv, .slice (some ⟨g, 0, none⟩) (R.W.length + 1) cap, ⟨hc'.set1 _, ownsRow_mod hs' hmb (fun k hk e => h.neS (by rw [hk, e])), ?_, h.few, ?_, ?_⟩, ?_, ?_⟩
  · have := ownsRow_mod hown hmb (fun k hk e => hgb (by simp [Value.ownBlock] at hk; omega))
    rw [← putCells_snoc R.W (i, s)] at this
    simpa using this
  · simp; omega
  · intro q hq
    rcases List.mem_append.1 hq with hq | hq
    · exact h.at' q hq
    · rw [List.mem_singleton.1 hq]; exact hi
  · intro k hk
    rcases hk with e | e | e
    · exact .inl (.inl e)
    · exact .inl (.inr (.inl e))
    · simp [Value.ownBlock] at e
      subst e
      rcases hat with e | e
      · exact .inl (.inr (.inr e))
      · exact .inr e
  · exact (hm.mono (fun k e => Or.inr (Or.inr e))).trans hmb (fun k e => .inl (.inl e))
theorem grown_mod {w1 w' : World} {o : Obj} {v : Value} (h : (w1.alloc o).grownBy w' v.ownBlock) : Mod (fun k => v.ownBlock = some k) w1 w' :=
  (Mod.of_below (NewMem.alloc w1 o) : Mod (fun k => v.ownBlock = some k) w1 (w1.alloc o)).trans (Mod.of_grown (F := fun k => v.ownBlock = some k) h (fun k hk => hk)) (fun _ e => .inl e)
theorem RDid.after {w w1 w' : World} {b : Nat} {sv wv : Value} {R R' : RS} (h : RefAt w b sv wv R) (hm : Mod (fun k => k = b) w w1) (hd : RDid w1 b sv wv R' w') : RDid w b sv wv R' w' := by
  obtain ⟨sv', wv', ha, hk, hm'⟩ := hd
  exact ⟨sv', wv', ha, fun k e => (hk k e).imp id (fun e => Nat.le_trans hm.size e), (hm.mono (fun k e => Or.inl e)).trans hm' (fun k e => .inl e)⟩
set_option maxRecDepth 100000 in
set_option maxHeartbeats 8000000 in
theorem rwrite_at (b : Nat) (sv wv : Value) (R : RS) (i : Int) (s : ByteArray) (w : World) (h : RefAt w b sv wv R) (hf : R.fuse ≤ 9223372036854775807) (hW : R.W.length < 1000000) (hsz : s.size ≤ maxLen) :
    Calls Try.prog 66 #[.pointer (some ⟨b, 0, none⟩), .int .i64 i, .string s] w fun e w' => e = .returned (.int .i64 (R.write i s).1) ∧ RDid w b sv wv (R.write i s).2 w' := by
  obtain ⟨a, cap, hsv, ha⟩ := ownsRow_slice h.s
  have c0 := h.cell.cells.1
  rw [hsv] at c0
  have cb := burnt_at b sv wv R w h hf
  have CB := Lib.hid cb
  have H := Lib.hid h
  unfold maxLen at hsz
  unfold RS.write
  obtain ⟨n, hn⟩ : ∃ n, n = R.S.length := ⟨_, rfl⟩
  rw [← hn] at c0 ⊢
  have HN := Lib.hid hn
  clear h cb hsv ha hn
  by_cases h0 : i < 0
  · rw [if_pos (.inl h0)]
    go_enter Try.func66, Try.ntmps66
    go_wp2
    go_ret
    exact ⟨rfl, RDid.same H.out⟩
  · have h0' : 0 ≤ i := by omega
    by_cases h1 : (n : Int) ≤ i
    · rw [if_pos (.inr (.inl h1))]
      go_enter Try.func66, Try.ntmps66
      go_wp2
      go_ret
      exact ⟨rfl, RDid.same H.out⟩
    · have h1' : i < (n : Int) := by omega
      by_cases h2 : s.size = 64
      · rw [if_neg (by rintro (x | x | x) <;> omega)]
        have h2i : (s.size : Int) = 64 := by omega
        cases hb : R.burnt.1 with
        | true =>
          rw [if_pos rfl]
          have HB := Lib.hid hb
          clear hb
          go_enter Try.func66, Try.ntmps66
          go_wp2_with fail
          refine CB.out.mono ?_
          rintro e w1 ⟨rfl, h1r, hm1⟩
          rw [HB.out]
          have HD := Lib.hid (RDid.after H.out hm1 (RDid.same h1r))
          clear h1r hm1
          go_wp2
          go_ret
          exact ⟨rfl, HD.out⟩
        | false =>
          rw [if_neg (by simp)]
          have HB := Lib.hid hb
          clear hb
          obtain ⟨i0, hi, hz0, hz1, hz2⟩ := info_parts info_put
          go_enter Try.func66, Try.ntmps66
          go_wp2_with fail
          refine CB.out.mono ?_
          rintro e w1 ⟨rfl, h1r, hm1⟩
          rw [HB.out]
          have k1 := h1r.cell.cells.2.1
          have kf := fun w' (hm : Mod (fun k => wv.ownBlock = some k) w1 w') => (h1r.cell.kept hm h1r.neW).free 1
          have kc := fun w' (hm : Mod (fun k => wv.ownBlock = some k) w1 w') => (h1r.cell.kept hm h1r.neW).cells.2.1
          have H1 := Lib.hid h1r
          have HM := Lib.hid hm1
          have KF := Lib.hid kf
          have KC := Lib.hid kc
          clear h1r hm1 kf kc
          have hnews : ∀ j u, [Value.int .i64 i, Value.string s][j]? = some u → (w1.alloc (.cells #[.int .i64 i, .string s] 115)).cell? ((⟨w1.heap.size, 0, none⟩ : Addr).add j) = some u := World.news_of_block (cs := #[.int .i64 i, .string s]) (heap_alloc_last _ _)
          have HNEWS := Lib.hid hnews
          clear hnews
          go_wp2_with (at_builtin; refine wpList_append_lies _ rfl _ _ 97 rfl 0 115 i0 _ 2 24 Try.underlying97 hi hz0 hz1 hz2 rfl (by decide) wv R.W.length _ rfl (H1.out.w.alloc _) ⟨w1.heap.size, 0, none⟩ 1 1 [.int .i64 i, .string s] rfl rfl HNEWS.out (by simp [Value.oneCell']) (by decide) (by unfold maxLen; omega) (by omega) (Nat.zero_le _) _ rfl ?_; intro g cp w' hown hgrow hat hlt; have hmg := grown_mod hgrow; have q1 := KC.out w' hmg; have q2 := KF.out w' hmg; have HDN := Lib.hid (RDid.after H.out HM.out (H1.out.pushed hW (by have := HN.out; exact ⟨h0', by rw [show R.burnt.2.S.length = n from HN.out.symm]; exact h1'⟩) hmg hown (by rcases hat with e | e; exact .inl e; exact .inr (by simp at e; omega)))); clear hown hgrow hat hlt hmg)
          go_ret
          exact ⟨rfl, HDN.out⟩
      · rw [if_pos (.inr (.inr h2))]
        have h2i : (s.size : Int) ≠ 64 := by omega
        go_enter Try.func66, Try.ntmps66
        go_wp2
        go_ret
        exact ⟨rfl, RDid.same H.out⟩
end Go.Proofs.Ytjnbdikhajnciaa.Drum
