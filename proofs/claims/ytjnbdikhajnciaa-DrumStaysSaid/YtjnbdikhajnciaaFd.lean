/- The document's drum: Settle, Crash. -/
import Derived.Test.YtjnbdikhajnciaaFc
namespace Go.Proofs.Ytjnbdikhajnciaa.Drum
open Go.RowKit Go.Proofs.Ytjnbdikhajnciaa.Ord Go.Proofs.YtjnbdikhajnciaaW.PrintWords Go.Proofs.Ytjnbdikhajnciaa.Base
set_option linter.unusedVariables false
set_option linter.unusedSimpArgs false
attribute [local go_sem] rdl_const rdl_func rdl_global rdl_nil rdl_cons

/-- What stays of the first k loose writes. -/
def rkeepN (p : Nat → Bool) (l : List (Int × ByteArray)) (s : List ByteArray) : Nat → List ByteArray
  | 0 => s
  | k + 1 => match l[k]? with
    | some q => if p k then (rkeepN p l s k).set q.1.toNat q.2 else rkeepN p l s k
    | none => rkeepN p l s k
theorem rkeepN_len (p : Nat → Bool) (l : List (Int × ByteArray)) (s : List ByteArray) : ∀ k, (rkeepN p l s k).length = s.length
  | 0 => rfl
  | k + 1 => by
    unfold rkeepN
    split
    · split
      · rw [List.length_set, rkeepN_len p l s k]
      · exact rkeepN_len p l s k
    · exact rkeepN_len p l s k
def RS.kept (R : RS) (p : Nat → Bool) (k : Nat) : RS := { R with S := rkeepN p R.W R.S k }
theorem RS.kept_len (R : RS) (p : Nat → Bool) (k : Nat) : (R.kept p k).S.length = R.S.length := rkeepN_len _ _ _ _
theorem RS.kept_no {R : RS} {p : Nat → Bool} {k : Nat} {q : Int × ByteArray} (hq : R.W[k]? = some q) (hp : p k = false) : R.kept p (k + 1) = R.kept p k := by
  have : rkeepN p R.W R.S (k + 1) = rkeepN p R.W R.S k := by rw [rkeepN, hq]; simp [hp]
  unfold RS.kept; rw [this]
theorem RS.kept_yes {R : RS} {p : Nat → Bool} {k : Nat} {q : Int × ByteArray} (hq : R.W[k]? = some q) (hp : p k = true) : R.kept p (k + 1) = { (R.kept p k) with S := (R.kept p k).S.set q.1.toNat q.2 } := by
  have : rkeepN p R.W R.S (k + 1) = (rkeepN p R.W R.S k).set q.1.toNat q.2 := by rw [rkeepN, hq]; simp [hp]
  unfold RS.kept; rw [this]
/-- A sector's text turned. -/
theorem RefAt.store {w : World} {b g n cap : Nat} {wv : Value} {R : RS} (h : RefAt w b (.slice (some ⟨g, 0, none⟩) n cap) wv R) {j : Nat} (hj : j < R.S.length) (s : ByteArray) :
    RefAt (w.setCell ⟨g, j, none⟩ (.string s)) b (.slice (some ⟨g, 0, none⟩) n cap) wv { R with S := R.S.set j s } := by
  have hm : Mod (fun i => i = g) w (w.setCell ⟨g, j, none⟩ (.string s)) := Mod.setCell _ _ _ rfl
  refine ⟨h.cell.kept hm (fun e => h.neS (by rw [e]; rfl)), ?_, ownsRow_mod h.w hm (fun k hk e => ownsRow_apart h.s h.w (by decide) g rfl (by rw [hk, e])), by rw [List.length_set]; exact h.few, h.fewW, fun q hq => by rw [List.length_set]; exact h.at' q hq⟩
  rcases h.s.2 with ⟨e, _⟩ | ⟨g', cp', cur, e, hb, hg, hc, hmx, hsz, ht⟩
  · cases e
  · injection e with e1 e2 e3
    injection e1 with e1
    injection e1 with e1
    subst e1; subst e2; subst e3
    refine ⟨by simp [strCells], .inr ⟨g, cap, _, by rw [List.length_set], hb, heap_setCell_same _ _ _ _ _ _ hg, by rw [List.length_set]; exact hc, hmx, by simpa using hsz, ?_⟩⟩
    rw [List.length_set, Nat.mul_one]
    rw [Nat.mul_one] at ht
    unfold strCells at ht ⊢
    rw [List.map_set, ← ht]
    simp [List.take_set]
theorem RefAt.emptied {w : World} {b : Nat} {sv wv : Value} {R : RS} (h : RefAt w b sv wv R) : RefAt (w.setCell ⟨b, 1, none⟩ (.slice none 0 0)) b sv (.slice none 0 0) { R with W := [] } := by
  have hm : Mod (fun k => k = b) w (w.setCell ⟨b, 1, none⟩ (.slice none 0 0)) := Mod.setCell _ _ _ rfl
  exact ⟨h.cell.set1 _, ownsRow_mod h.s hm (fun k hk e => h.neS (by rw [hk, e])), World.ownsRow_nil _ _ _ _, h.few, by simp, fun q hq => by cases hq⟩
def RS.settle (R : RS) : Int × RS := if R.burnt.1 then (9, R.burnt.2) else (0, { (R.burnt.2.kept (fun _ => true) R.W.length) with W := [] })
/-- The document's drum while k loose writes have been looked at. -/
def RKept (w : World) (b : Nat) (sv wv : Value) (R : RS) (p : Nat → Bool) (k : Nat) (wr : World) : Prop := RefAt wr b sv wv (R.kept p k) ∧ Mod (fun i => sv.ownBlock = some i) w wr
set_option maxRecDepth 100000 in
set_option maxHeartbeats 8000000 in
theorem rsettle_at (b : Nat) (sv wv : Value) (R : RS) (w : World) (h : RefAt w b sv wv R) (hf : R.fuse ≤ 9223372036854775807) :
    Calls Try.prog 63 #[.pointer (some ⟨b, 0, none⟩)] w fun e w' => e = .returned (.int .i64 R.settle.1) ∧ RDid w b sv wv R.settle.2 w' := by
  have cb := burnt_at b sv wv R w h hf
  have CB := Lib.hid cb
  have H := Lib.hid h
  unfold RS.settle
  clear h cb
  cases hb : R.burnt.1 with
  | true =>
    rw [if_pos rfl]
    have HB := Lib.hid hb
    clear hb
    go_enter Try.func63, Try.ntmps63
    go_wp2_with fail
    refine CB.out.mono ?_
    rintro e w1 ⟨rfl, h1r, hm1⟩
    rw [HB.out]
    have HD := Lib.hid (RDid.after H.out hm1 (RDid.same h1r))
    clear h1r hm1
    go_wp2
    go_ret
    exact ⟨rfl, HD.out⟩
  | false =>
    rw [if_neg (by simp)]
    have HB := Lib.hid hb
    clear hb
    obtain ⟨R1, hR1⟩ : ∃ R1, R1 = R.burnt.2 := ⟨_, rfl⟩
    have hw1 : R1.W = R.W := by rw [hR1]; rfl
    rw [← hR1, show R.W.length = R1.W.length by rw [hw1]]
    have HR1 := Lib.hid hR1
    clear hw1 hR1
    go_enter Try.func63, Try.ntmps63
    go_wp2_with fail
    refine CB.out.mono ?_
    rintro e w1 ⟨rfl, h1r, hm1⟩
    rw [HB.out]
    rw [← HR1.out] at h1r
    obtain ⟨a, cap, hsv, ha⟩ := ownsRow_slice h1r.s
    obtain ⟨a', cap', hwv, ha'⟩ := ownsRow_slice h1r.w
    obtain ⟨n, hn⟩ : ∃ n, n = R1.S.length := ⟨_, rfl⟩
    obtain ⟨m, hm⟩ : ∃ m, m = R1.W.length := ⟨_, rfl⟩
    have hfw := h1r.fewW
    have H1 := Lib.hid h1r
    have HM1 := Lib.hid hm1
    rw [← hn] at hsv ha
    rw [← hm] at hwv ha' hfw
    have HN := Lib.hid hn
    have HM := Lib.hid hm
    have HSV := Lib.hid hsv
    have HWV := Lib.hid hwv
    have HA := Lib.hid ha
    have HA' := Lib.hid ha'
    clear h1r hm1 hn hm hsv hwv ha ha'
    go_wp2_with fail
    go_loopw [3] (fun i wr => ∃ k : Nat, k ≤ m ∧ i = .int .i64 (k : Int) ∧ RKept w1 b sv wv R1 (fun _ => true) k wr) (fun i _ => m - (intOf i).toNat)
    case atStart => exact ⟨0, Nat.zero_le _, rfl, H1.out, Mod.refl _ _⟩
    case round =>
      obtain ⟨k, hk, rfl, hkept⟩ := hrel
      obtain ⟨c0, c1, _, _⟩ := hkept.1.cell.cells
      rw [HSV.out] at c0
      rw [HWV.out] at c1
      have HKE := Lib.hid hkept
      clear hkept
      by_cases hlt : k < m
      · obtain ⟨g', rfl⟩ := HA'.out (by omega)
        obtain ⟨⟨qi, qs⟩, hq⟩ : ∃ q, R1.W[k]? = some q := ⟨_, List.getElem?_eq_getElem (by have := HM.out; omega)⟩
        obtain ⟨cq1, cq2⟩ := HKE.out.1.put HWV.out (k := k) (q := (qi, qs)) hq
        obtain ⟨hq0, hq1⟩ := H1.out.at' _ (List.mem_of_getElem? hq)
        simp only at cq1 cq2 hq0 hq1
        rw [← HN.out] at hq1
        obtain ⟨j, rfl⟩ : ∃ j : Nat, qi = (j : Int) := ⟨qi.toNat, by omega⟩
        have hj : j < n := by omega
        obtain ⟨g, rfl⟩ := HA.out (by omega)
        have hke := HKE.out.1
        rw [HSV.out] at hke
        have hjs : j < (R1.kept (fun _ => true) k).S.length := by rw [RS.kept_len]; have := HN.out; omega
        have cold : ∃ old, wr.cell? ⟨g, j, none⟩ = some (.string old) := ⟨_, hke.str rfl (List.getElem?_eq_getElem hjs)⟩
        obtain ⟨old, cold⟩ := cold
        have fold := ownsRow_free (by have := hke.s; rw [RS.kept_len, ← HN.out] at this; exact this) j
        have hst := hke.store hjs qs
        have hye : R1.kept (fun _ => true) (k + 1) = { (R1.kept (fun _ => true) k) with S := (R1.kept (fun _ => true) k).S.set j qs } := RS.kept_yes hq rfl
        rw [← hye] at hst
        have hmm : Mod (fun i => sv.ownBlock = some i) w1 (wr.setCell ⟨g, j, none⟩ (.string qs)) := HKE.out.2.trans (Mod.setCell (F := fun i => i = g) _ _ _ rfl) (fun i e => .inl (by rw [HSV.out, e]; rfl))
        have HST := Lib.hid hst
        have HMM := Lib.hid hmm
        clear hke hjs hst hye hmm hq hq0 hq1
        go_wp2_with fail
        refine' wp_region_factsT (S := (fun W => W = wr.drew)) (R := (fun a b => a = b)) [eqF _ _, eqF _ _, eqF _ _, eqF _ (.slice (some ⟨g, 0, none⟩) n cap), eqF _ _, eqF _ _, eqF _ _, eqF _ (.slice (some ⟨g', 0, none⟩) m cap'), eqF _ _, eqF _ _, eqF _ _, eqF _ (.int .i64 (j : Int)), eqF _ _, eqF _ _, eqF _ _, eqF _ (.slice (some ⟨g', 0, none⟩) m cap'), eqF _ _, eqF _ _, eqF _ _, eqF _ (.string qs), eqF _ (.pointer (some ⟨g, j, none⟩))] (by kernel_rfl) (by kernel_rfl) ?hS ?h0 (steps_cons ?s0 (steps_cons ?s1 (steps_cons ?s2 (steps_cons ?s3 (steps_cons ?s4 (steps_cons ?s5 (steps_cons ?s6 (steps_cons ?s7 (steps_cons ?s8 (steps_cons ?s9 (steps_cons ?s10 (steps_cons ?s11 (steps_cons ?s12 (steps_cons ?s13 (steps_cons ?s14 (steps_cons ?s15 (steps_cons ?s16 (steps_cons ?s17 (steps_cons ?s18 (steps_cons ?s19 (steps_cons ?s20 (steps_nil)))))))))))))))))))))) ?fin
        case s0 =>
          intro g W hSW hd
          try simp only [Nat.zero_add, Nat.reduceAdd] at hd ⊢
          with_reducible refine OpGives.pre_reads [] 39 ?_ ?_ ?_
          · rfl
          · kernel_rfl
          simp only [List.map_cons, List.map_nil]
          refine OpGives.val (w' := W) ?_ ⟨rfl, rfl⟩
          go_simp
          try with_reducible rfl
        case s1 =>
          intro g W hSW hd
          try simp only [Nat.zero_add, Nat.reduceAdd] at hd ⊢
          have h0 : g 0 = _ := hd 0 (by decide) (by kernel_rfl)
          with_reducible refine OpGives.pre_reads [(15, 0)] 39 ?_ ?_ ?_
          · rfl
          · kernel_rfl
          simp only [List.map_cons, List.map_nil]
          refine OpGives.val (w' := W) ?_ ⟨rfl, rfl⟩
          go_simp
          try with_reducible rfl
        case s2 =>
          intro g W hSW hd
          try simp only [Nat.zero_add, Nat.reduceAdd] at hd ⊢
          have h1 : g 1 = _ := hd 1 (by decide) (by kernel_rfl)
          with_reducible refine OpGives.pre_reads [(16, 1)] 39 ?_ ?_ ?_
          · rfl
          · kernel_rfl
          simp only [List.map_cons, List.map_nil]
          refine OpGives.val (w' := W) ?_ ⟨rfl, rfl⟩
          go_simp
          try with_reducible rfl
        case s3 =>
          intro g W hSW hd
          try simp only [Nat.zero_add, Nat.reduceAdd] at hd ⊢
          have h2 : g 2 = _ := hd 2 (by decide) (by kernel_rfl)
          with_reducible refine OpGives.pre_reads [(17, 2)] 39 ?_ ?_ ?_
          · rfl
          · kernel_rfl
          simp only [List.map_cons, List.map_nil]
          subst hSW; refine OpGives.val (w' := wr.drew) ?_ ⟨rfl, rfl⟩; go_simp
        case s4 =>
          intro g W hSW hd
          try simp only [Nat.zero_add, Nat.reduceAdd] at hd ⊢
          with_reducible refine OpGives.pre_reads [] 39 ?_ ?_ ?_
          · rfl
          · kernel_rfl
          simp only [List.map_cons, List.map_nil]
          refine OpGives.val (w' := W) ?_ ⟨rfl, rfl⟩
          go_simp
          try with_reducible rfl
        case s5 =>
          intro g W hSW hd
          try simp only [Nat.zero_add, Nat.reduceAdd] at hd ⊢
          have h4 : g 4 = _ := hd 4 (by decide) (by kernel_rfl)
          with_reducible refine OpGives.pre_reads [(19, 4)] 39 ?_ ?_ ?_
          · rfl
          · kernel_rfl
          simp only [List.map_cons, List.map_nil]
          refine OpGives.val (w' := W) ?_ ⟨rfl, rfl⟩
          go_simp
          try with_reducible rfl
        case s6 =>
          intro g W hSW hd
          try simp only [Nat.zero_add, Nat.reduceAdd] at hd ⊢
          have h5 : g 5 = _ := hd 5 (by decide) (by kernel_rfl)
          with_reducible refine OpGives.pre_reads [(20, 5)] 39 ?_ ?_ ?_
          · rfl
          · kernel_rfl
          simp only [List.map_cons, List.map_nil]
          refine OpGives.val (w' := W) ?_ ⟨rfl, rfl⟩
          go_simp
          try with_reducible rfl
        case s7 =>
          intro g W hSW hd
          try simp only [Nat.zero_add, Nat.reduceAdd] at hd ⊢
          have h6 : g 6 = _ := hd 6 (by decide) (by kernel_rfl)
          with_reducible refine OpGives.pre_reads [(21, 6)] 39 ?_ ?_ ?_
          · rfl
          · kernel_rfl
          simp only [List.map_cons, List.map_nil]
          subst hSW; refine OpGives.val (w' := wr.drew) ?_ ⟨rfl, rfl⟩; go_simp
        case s8 =>
          intro g W hSW hd
          try simp only [Nat.zero_add, Nat.reduceAdd] at hd ⊢
          with_reducible refine OpGives.pre_reads [] 39 ?_ ?_ ?_
          · rfl
          · kernel_rfl
          simp only [List.map_cons, List.map_nil]
          refine OpGives.val (w' := W) ?_ ⟨rfl, rfl⟩
          go_simp
          try with_reducible rfl
        case s9 =>
          intro g W hSW hd
          try simp only [Nat.zero_add, Nat.reduceAdd] at hd ⊢
          have h7 : g 7 = _ := hd 7 (by decide) (by kernel_rfl)
          have h8 : g 8 = _ := hd 8 (by decide) (by kernel_rfl)
          with_reducible refine OpGives.pre_reads [(22, 7), (23, 8)] 39 ?_ ?_ ?_
          · rfl
          · kernel_rfl
          simp only [List.map_cons, List.map_nil]
          refine OpGives.val (w' := W) ?_ ⟨rfl, rfl⟩
          go_simp
          try with_reducible rfl
        case s10 =>
          intro g W hSW hd
          try simp only [Nat.zero_add, Nat.reduceAdd] at hd ⊢
          have h9 : g 9 = _ := hd 9 (by decide) (by kernel_rfl)
          with_reducible refine OpGives.pre_reads [(24, 9)] 39 ?_ ?_ ?_
          · rfl
          · kernel_rfl
          simp only [List.map_cons, List.map_nil]
          refine OpGives.val (w' := W) ?_ ⟨rfl, rfl⟩
          go_simp
          try with_reducible rfl
        case s11 =>
          intro g W hSW hd
          try simp only [Nat.zero_add, Nat.reduceAdd] at hd ⊢
          have h10 : g 10 = _ := hd 10 (by decide) (by kernel_rfl)
          with_reducible refine OpGives.pre_reads [(25, 10)] 39 ?_ ?_ ?_
          · rfl
          · kernel_rfl
          simp only [List.map_cons, List.map_nil]
          subst hSW; refine OpGives.val (w' := wr.drew) ?_ ⟨rfl, rfl⟩; go_simp
        case s12 =>
          intro g W hSW hd
          try simp only [Nat.zero_add, Nat.reduceAdd] at hd ⊢
          with_reducible refine OpGives.pre_reads [] 39 ?_ ?_ ?_
          · rfl
          · kernel_rfl
          simp only [List.map_cons, List.map_nil]
          refine OpGives.val (w' := W) ?_ ⟨rfl, rfl⟩
          go_simp
          try with_reducible rfl
        case s13 =>
          intro g W hSW hd
          try simp only [Nat.zero_add, Nat.reduceAdd] at hd ⊢
          have h12 : g 12 = _ := hd 12 (by decide) (by kernel_rfl)
          with_reducible refine OpGives.pre_reads [(27, 12)] 39 ?_ ?_ ?_
          · rfl
          · kernel_rfl
          simp only [List.map_cons, List.map_nil]
          refine OpGives.val (w' := W) ?_ ⟨rfl, rfl⟩
          go_simp
          try with_reducible rfl
        case s14 =>
          intro g W hSW hd
          try simp only [Nat.zero_add, Nat.reduceAdd] at hd ⊢
          have h13 : g 13 = _ := hd 13 (by decide) (by kernel_rfl)
          with_reducible refine OpGives.pre_reads [(28, 13)] 39 ?_ ?_ ?_
          · rfl
          · kernel_rfl
          simp only [List.map_cons, List.map_nil]
          refine OpGives.val (w' := W) ?_ ⟨rfl, rfl⟩
          go_simp
          try with_reducible rfl
        case s15 =>
          intro g W hSW hd
          try simp only [Nat.zero_add, Nat.reduceAdd] at hd ⊢
          have h14 : g 14 = _ := hd 14 (by decide) (by kernel_rfl)
          with_reducible refine OpGives.pre_reads [(29, 14)] 39 ?_ ?_ ?_
          · rfl
          · kernel_rfl
          simp only [List.map_cons, List.map_nil]
          subst hSW; refine OpGives.val (w' := wr.drew) ?_ ⟨rfl, rfl⟩; go_simp
        case s16 =>
          intro g W hSW hd
          try simp only [Nat.zero_add, Nat.reduceAdd] at hd ⊢
          with_reducible refine OpGives.pre_reads [] 39 ?_ ?_ ?_
          · rfl
          · kernel_rfl
          simp only [List.map_cons, List.map_nil]
          refine OpGives.val (w' := W) ?_ ⟨rfl, rfl⟩
          go_simp
          try with_reducible rfl
        case s17 =>
          intro g W hSW hd
          try simp only [Nat.zero_add, Nat.reduceAdd] at hd ⊢
          have h15 : g 15 = _ := hd 15 (by decide) (by kernel_rfl)
          have h16 : g 16 = _ := hd 16 (by decide) (by kernel_rfl)
          with_reducible refine OpGives.pre_reads [(30, 15), (31, 16)] 39 ?_ ?_ ?_
          · rfl
          · kernel_rfl
          simp only [List.map_cons, List.map_nil]
          refine OpGives.val (w' := W) ?_ ⟨rfl, rfl⟩
          go_simp
          try with_reducible rfl
        case s18 =>
          intro g W hSW hd
          try simp only [Nat.zero_add, Nat.reduceAdd] at hd ⊢
          have h17 : g 17 = _ := hd 17 (by decide) (by kernel_rfl)
          with_reducible refine OpGives.pre_reads [(32, 17)] 39 ?_ ?_ ?_
          · rfl
          · kernel_rfl
          simp only [List.map_cons, List.map_nil]
          refine OpGives.val (w' := W) ?_ ⟨rfl, rfl⟩
          go_simp
          try with_reducible rfl
        case s19 =>
          intro g W hSW hd
          try simp only [Nat.zero_add, Nat.reduceAdd] at hd ⊢
          have h18 : g 18 = _ := hd 18 (by decide) (by kernel_rfl)
          with_reducible refine OpGives.pre_reads [(33, 18)] 39 ?_ ?_ ?_
          · rfl
          · kernel_rfl
          simp only [List.map_cons, List.map_nil]
          subst hSW; refine OpGives.val (w' := wr.drew) ?_ ⟨rfl, rfl⟩; go_simp
        case s20 =>
          intro g W hSW hd
          try simp only [Nat.zero_add, Nat.reduceAdd] at hd ⊢
          have h3 : g 3 = _ := hd 3 (by decide) (by kernel_rfl)
          have h11 : g 11 = _ := hd 11 (by decide) (by kernel_rfl)
          with_reducible refine OpGives.pre_reads [(18, 3), (26, 11)] 39 ?_ ?_ ?_
          · rfl
          · kernel_rfl
          simp only [List.map_cons, List.map_nil]
          subst hSW; refine OpGives.val (w' := wr.drew) ?_ ⟨rfl, rfl⟩; go_simp
        case hS => rintro a c h rfl; exact h
        case h0 => rfl
        case fin =>
          intro v W hSW hf
          subst hSW
          have h19 : v 19 = _ := hf 19 (Nat.lt_of_lt_of_eq (by decide : 19 < 21) rfl)
          have h20 : v 20 = _ := hf 20 (Nat.lt_of_lt_of_eq (by decide : 20 < 21) rfl)
          clear hf
          generalize hF : Ord.pre _ _ v _ = F
          rw [Ord.pre_lit [some 15, some 16, some 17, some 18, some 19, some 20, some 21, some 22, some 23, some 24, some 25, some 26, some 27, some 28, some 29, some 30, some 31, some 32, some 33, some 34, some 35]
            (by kernel_rfl)] at hF
          simp only [Ord.puts, Nat.zero_add, Nat.reduceAdd] at hF
          subst hF
          rw [h19, h20]
          clear h19 h20
          refine any_one (i := 21) (by kernel_rfl) ?_
          refine wpOp_skip (w' := wr.drew.setCell ⟨g, j, none⟩ (.string qs)) rfl rfl (by go_simp) ?_
          refine wpAny_done (by kernel_rfl) ?_ _
          simp only [List.getElem_toArray, List.getElem_cons_succ, List.getElem_cons_zero]
          go_frame
          have hkd : RKept w1 b sv wv R1 (fun _ => true) (k + 1) (wr.drew.setCell ⟨g, j, none⟩ (.string qs)) := by
            have e : wr.drew.setCell ⟨g, j, none⟩ (.string qs) = (wr.setCell ⟨g, j, none⟩ (.string qs)).drew := rfl
            rw [e]
            unfold RKept
            rw [HSV.out]
            exact ⟨HST.out.kept (Mod.drew (Mod.refl (fun _ => False) _)) (fun _ _ => id), by have := HMM.out; rw [HSV.out] at this; exact this.drew⟩
          have HKD := Lib.hid hkd
          clear hkd cold fold c0 c1 cq1 cq2
          generalize wr.drew.setCell ⟨g, j, none⟩ (.string qs) = wy at *
          go_wp2_with fail
          go_roundw
          case rel => exact ⟨k + 1, by omega, by go_num, HKD.out⟩
          case measure => simp [intOf]; omega
      · obtain rfl : k = m := by omega
        have f1 := HKE.out.1.cell.free 1
        have hem := HKE.out.1.emptied
        have hmb : Mod (fun i => i = b) wr (wr.setCell ⟨b, 1, none⟩ (.slice none 0 0)) := Mod.setCell _ _ _ rfl
        have hd : RDid w1 b sv wv { (R1.kept (fun _ => true) k) with W := [] } (wr.setCell ⟨b, 1, none⟩ (.slice none 0 0)) :=
          ⟨sv, .slice none 0 0, hem, fun k hk => by rcases hk with e | e | e; exact .inl (.inl e); exact .inl (.inr (.inl e)); simp [Value.ownBlock] at e, (HKE.out.2.mono (fun _ e => Or.inr (Or.inl e))).trans hmb (fun _ e => .inl (.inl e))⟩
        rw [HM.out] at hd
        have HD := Lib.hid (RDid.after H.out HM1.out hd)
        clear hem hmb hd
        go_wp2_with fail
        go_ret
        exact ⟨rfl, HD.out⟩
end Go.Proofs.Ytjnbdikhajnciaa.Drum
