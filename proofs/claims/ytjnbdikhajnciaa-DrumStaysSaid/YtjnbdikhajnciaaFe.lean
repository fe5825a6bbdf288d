/- The document's drum: Crash. -/
import Derived.Test.YtjnbdikhajnciaaFd
namespace Go.Proofs.Ytjnbdikhajnciaa.Drum
open Go.RowKit Go.Proofs.Ytjnbdikhajnciaa.Ord Go.Proofs.YtjnbdikhajnciaaW.PrintWords Go.Proofs.Ytjnbdikhajnciaa.Base
set_option linter.unusedVariables false
set_option linter.unusedSimpArgs false
attribute [local go_sem] rdl_const rdl_func rdl_global rdl_nil rdl_cons

def RS.crash (R : RS) (zs : List Int) : RS := { (R.kept (fun k => zs.contains (k : Int)) R.W.length) with W := [], fuse := -1, gone := false }
/-- Amid the k-th loose write, i numbers having been looked at: it has been made sure, or not yet. -/
def RMid (w : World) (b : Nat) (sv wv : Value) (R : RS) (zs : List Int) (k i : Nat) (wr : World) : Prop :=
  ((zs.take i).contains (k : Int) = true ∧ RefAt wr b sv wv (R.kept (fun k => zs.contains (k : Int)) (k + 1)) ∨ (zs.take i).contains (k : Int) = false ∧ RefAt wr b sv wv (R.kept (fun k => zs.contains (k : Int)) k)) ∧ Mod (fun i => sv.ownBlock = some i) w wr
theorem set_same {l : List ByteArray} {j : Nat} {s : ByteArray} : (l.set j s).set j s = l.set j s := List.set_set s
theorem RMid.turns {w wr : World} {b : Nat} {sv wv : Value} {R : RS} {zs : List Int} {k i j : Nat} {qs : ByteArray} (h : RMid w b sv wv R zs k i wr) (hq : R.W[k]? = some ((j : Int), qs)) (hp : zs.contains (k : Int) = true) :
    ∃ R', RefAt wr b sv wv R' ∧ R'.S.length = R.S.length ∧ R'.W = R.W ∧ { R' with S := R'.S.set j qs } = R.kept (fun k => zs.contains (k : Int)) (k + 1) := by
  have hy := RS.kept_yes (R := R) (p := fun k => zs.contains (k : Int)) hq hp
  rw [Int.toNat_natCast] at hy
  rcases h.1 with ⟨_, h⟩ | ⟨_, h⟩
  · refine ⟨_, h, RS.kept_len _ _ _, rfl, ?_⟩
    rw [hy]; simp only [set_same]
  · exact ⟨_, h, RS.kept_len _ _ _, rfl, hy.symm⟩
theorem RMid.ref {w wr : World} {b : Nat} {sv wv : Value} {R : RS} {zs : List Int} {k i : Nat} (h : RMid w b sv wv R zs k i wr) : ∃ R', RefAt wr b sv wv R' ∧ R'.S.length = R.S.length ∧ R'.W = R.W := by
  rcases h.1 with ⟨_, h⟩ | ⟨_, h⟩
  · exact ⟨_, h, RS.kept_len _ _ _, rfl⟩
  · exact ⟨_, h, RS.kept_len _ _ _, rfl⟩
theorem contains_mem {zs : List Int} {i : Nat} {x : Int} (h : (zs.take i).contains x = true) : zs.contains x = true :=
  List.contains_iff_mem.2 (List.mem_of_mem_take (List.contains_iff_mem.1 h))
theorem contains_all {zs : List Int} {i : Nat} {x : Int} (h : (zs.take i).contains x = false) (hi : zs.length ≤ i) : zs.contains x = false := by
  rwa [List.take_of_length_le hi] at h
theorem take_contains {zs : List Int} {i : Nat} {x z : Int} (hz : zs[i]? = some z) : (zs.take (i + 1)).contains x = ((zs.take i).contains x || x == z) := by
  rw [List.take_add_one, hz]; simp only [Option.toList_some]; rw [List.contains_eq_any_beq, List.any_append, ← List.contains_eq_any_beq]; simp [Bool.beq_eq_decide_eq]
set_option maxRecDepth 100000 in
set_option maxHeartbeats 16000000 in
theorem rcrash_at (b : Nat) (sv wv : Value) (R : RS) (ka : Option Addr) (kn kc : Nat) (zs : List Int) (w : World) (h : RefAt w b sv wv R) (hz : IntsAt w ka kn zs) (hka : 0 < kn → ∀ ad, ka = some ad → sv.ownBlock ≠ some ad.block) :
    Calls Try.prog 64 #[.pointer (some ⟨b, 0, none⟩), .slice ka kn kc] w fun e w' => e = .returned (.tuple #[]) ∧ RDid w b sv wv (R.crash zs) w' := by
  obtain ⟨a, cap, hsv, ha⟩ := ownsRow_slice h.s
  obtain ⟨a', cap', hwv, ha'⟩ := ownsRow_slice h.w
  obtain ⟨n, hn⟩ : ∃ n, n = R.S.length := ⟨_, rfl⟩
  obtain ⟨m, hm⟩ : ∃ m, m = R.W.length := ⟨_, rfl⟩
  have hfw := h.fewW
  obtain ⟨hzl, hzm, hzc⟩ := hz
  have H := Lib.hid h
  rw [← hn] at hsv ha
  rw [← hm] at hwv ha' hfw
  have HN := Lib.hid hn
  have HM := Lib.hid hm
  have HSV := Lib.hid hsv
  have HWV := Lib.hid hwv
  have HA := Lib.hid ha
  have HA' := Lib.hid ha'
  have HZL := Lib.hid hzl
  have HZ : Hid (IntsAt w ka kn zs) := Lib.hid ⟨hzl, hzm, hzc⟩
  have HKA := Lib.hid hka
  clear h hn hm hsv hwv ha ha' hzl hzc hka
  go_enter Try.func64, Try.ntmps64
  go_wp2_with fail
  go_loopw [4] (fun i wr => ∃ k : Nat, k ≤ m ∧ i = .int .i64 (k : Int) ∧ RKept w b sv wv R (fun k => zs.contains (k : Int)) k wr) (fun i _ => m - (intOf i).toNat)
  case atStart => exact ⟨0, Nat.zero_le _, rfl, H.out, Mod.refl _ _⟩
  case round =>
    obtain ⟨k, hk, rfl, hkept⟩ := hrel
    obtain ⟨c0, c1, _, _⟩ := hkept.1.cell.cells
    rw [HSV.out] at c0
    rw [HWV.out] at c1
    have HKE := Lib.hid hkept
    clear hkept
    by_cases hlt : k < m
    · obtain ⟨g', rfl⟩ := HA'.out (by omega)
      obtain ⟨⟨qi, qs⟩, hq⟩ : ∃ q, R.W[k]? = some q := ⟨_, List.getElem?_eq_getElem (by have := HM.out; omega)⟩
      obtain ⟨hq0, hq1⟩ := H.out.at' _ (List.mem_of_getElem? hq)
      simp only at hq0 hq1
      rw [← HN.out] at hq1
      obtain ⟨j, rfl⟩ : ∃ j : Nat, qi = (j : Int) := ⟨qi.toNat, by omega⟩
      have hj : j < n := by omega
      obtain ⟨g, rfl⟩ := HA.out (by omega)
      have HQ := Lib.hid hq
      clear hq hq0 hq1
      go_wp2_with fail
      obtain ⟨wo, hwo⟩ : ∃ wo : World, wo = wr := ⟨_, rfl⟩
      have HWO := Lib.hid hwo
      clear hwo
      clear c0 c1
      go_loopw [5] (fun i wi => ∃ t : Nat, t ≤ kn ∧ i = .int .i64 (t : Int) ∧ RMid w b sv wv R zs k t wi) (fun i _ => kn - (intOf i).toNat)
      case atStart => exact ⟨0, Nat.zero_le _, rfl, .inr ⟨rfl, HKE.out.1⟩, HKE.out.2⟩
      case round =>
        obtain ⟨t, ht, rfl, hmid⟩ := hrel
        by_cases htl : t < kn
        · obtain ⟨z, hzt⟩ : ∃ z, zs[t]? = some z := ⟨_, List.getElem?_eq_getElem (by have := HZL.out; omega)⟩
          obtain ⟨_, _, hcz⟩ := IntsAt.kept HZ.out hmid.2 (fun h0 ad e x => HKA.out h0 ad e x)
          obtain ⟨ad, rfl, hcz2⟩ := hcz (by omega)
          have cz := hcz2 t z hzt
          have htc := fun x => take_contains (x := x) hzt
          have HTC := Lib.hid htc
          have HZT := Lib.hid hzt
          clear hcz hcz2 htc hzt
          by_cases hzk : z = (k : Int)
          · subst hzk
            have hpk : zs.contains (k : Int) = true := List.contains_iff_mem.2 (List.mem_of_getElem? HZT.out)
            obtain ⟨R', hr', hl', hw', hset⟩ := hmid.turns HQ.out hpk
            obtain ⟨c0, c1, _, _⟩ := hr'.cell.cells
            rw [HSV.out] at c0
            rw [HWV.out] at c1
            obtain ⟨cq1, cq2⟩ := hr'.put HWV.out (k := k) (q := ((j : Int), qs)) (by rw [hw']; exact HQ.out)
            simp only at cq1 cq2
            rw [HSV.out] at hr'
            have hjs : j < R'.S.length := by rw [hl']; have := HN.out; omega
            obtain ⟨old, cold⟩ : ∃ old, wr.cell? ⟨g, j, none⟩ = some (.string old) := ⟨_, hr'.str rfl (List.getElem?_eq_getElem hjs)⟩
            have fold := ownsRow_free (by have := hr'.s; rw [hl', ← HN.out] at this; exact this) j
            have hst := hr'.store hjs qs
            rw [hset] at hst
            have hmm : Mod (fun i => sv.ownBlock = some i) w (wr.setCell ⟨g, j, none⟩ (.string qs)) := hmid.2.trans (Mod.setCell (F := fun i => i = g) _ _ _ rfl) (fun i e => .inl (by rw [HSV.out, e]; rfl))
            have HST := Lib.hid hst
            have HMM := Lib.hid hmm
            clear hr' hjs hst hmm hset hl' hw' hmid hpk
            go_wp2_with fail
            refine' wp_region_factsT (S := (fun W => W = wr.drew)) (R := (fun a b => a = b)) [eqF _ _, eqF _ _, eqF _ _, eqF _ (.slice (some ⟨g, 0, none⟩) n cap), eqF _ _, eqF _ _, eqF _ _, eqF _ (.slice (some ⟨g', 0, none⟩) m cap'), eqF _ _, eqF _ _, eqF _ _, eqF _ (.int .i64 (j : Int)), eqF _ _, eqF _ _, eqF _ _, eqF _ (.slice (some ⟨g', 0, none⟩) m cap'), eqF _ _, eqF _ _, eqF _ _, eqF _ (.string qs), eqF _ (.pointer (some ⟨g, j, none⟩))] (by kernel_rfl) (by kernel_rfl) ?hS ?h0 (steps_cons ?s0 (steps_cons ?s1 (steps_cons ?s2 (steps_cons ?s3 (steps_cons ?s4 (steps_cons ?s5 (steps_cons ?s6 (steps_cons ?s7 (steps_cons ?s8 (steps_cons ?s9 (steps_cons ?s10 (steps_cons ?s11 (steps_cons ?s12 (steps_cons ?s13 (steps_cons ?s14 (steps_cons ?s15 (steps_cons ?s16 (steps_cons ?s17 (steps_cons ?s18 (steps_cons ?s19 (steps_cons ?s20 (steps_nil)))))))))))))))))))))) ?fin
            case s0 =>
              intro g W hSW hd
              try simp only [Nat.zero_add, Nat.reduceAdd] at hd ⊢
              with_reducible refine OpGives.pre_reads [] 57 ?_ ?_ ?_
              · rfl
              · kernel_rfl
              simp only [List.map_cons, List.map_nil]
              refine OpGives.val (w' := W) ?_ ⟨rfl, rfl⟩
              go_simp
              try with_reducible rfl
            case s1 =>
              intro g W hSW hd
              try simp only [Nat.zero_add, Nat.reduceAdd] at hd ⊢
              have h0 : g 0 = _ := hd 0 (by decide) (by kernel_rfl)
              with_reducible refine OpGives.pre_reads [(27, 0)] 57 ?_ ?_ ?_
              · rfl
              · kernel_rfl
              simp only [List.map_cons, List.map_nil]
              refine OpGives.val (w' := W) ?_ ⟨rfl, rfl⟩
              go_simp
              try with_reducible rfl
            case s2 =>
              intro g W hSW hd
              try simp only [Nat.zero_add, Nat.reduceAdd] at hd ⊢
              have h1 : g 1 = _ := hd 1 (by decide) (by kernel_rfl)
              with_reducible refine OpGives.pre_reads [(28, 1)] 57 ?_ ?_ ?_
              · rfl
              · kernel_rfl
              simp only [List.map_cons, List.map_nil]
              refine OpGives.val (w' := W) ?_ ⟨rfl, rfl⟩
              go_simp
              try with_reducible rfl
            case s3 =>
              intro g W hSW hd
              try simp only [Nat.zero_add, Nat.reduceAdd] at hd ⊢
              have h2 : g 2 = _ := hd 2 (by decide) (by kernel_rfl)
              with_reducible refine OpGives.pre_reads [(29, 2)] 57 ?_ ?_ ?_
              · rfl
              · kernel_rfl
              simp only [List.map_cons, List.map_nil]
              subst hSW; refine OpGives.val (w' := wr.drew) ?_ ⟨rfl, rfl⟩; go_simp
            case s4 =>
              intro g W hSW hd
              try simp only [Nat.zero_add, Nat.reduceAdd] at hd ⊢
              with_reducible refine OpGives.pre_reads [] 57 ?_ ?_ ?_
              · rfl
              · kernel_rfl
              simp only [List.map_cons, List.map_nil]
              refine OpGives.val (w' := W) ?_ ⟨rfl, rfl⟩
              go_simp
              try with_reducible rfl
            case s5 =>
              intro g W hSW hd
              try simp only [Nat.zero_add, Nat.reduceAdd] at hd ⊢
              have h4 : g 4 = _ := hd 4 (by decide) (by kernel_rfl)
              with_reducible refine OpGives.pre_reads [(31, 4)] 57 ?_ ?_ ?_
              · rfl
              · kernel_rfl
              simp only [List.map_cons, List.map_nil]
              refine OpGives.val (w' := W) ?_ ⟨rfl, rfl⟩
              go_simp
              try with_reducible rfl
            case s6 =>
              intro g W hSW hd
              try simp only [Nat.zero_add, Nat.reduceAdd] at hd ⊢
              have h5 : g 5 = _ := hd 5 (by decide) (by kernel_rfl)
              with_reducible refine OpGives.pre_reads [(32, 5)] 57 ?_ ?_ ?_
              · rfl
              · kernel_rfl
              simp only [List.map_cons, List.map_nil]
              refine OpGives.val (w' := W) ?_ ⟨rfl, rfl⟩
              go_simp
              try with_reducible rfl
            case s7 =>
              intro g W hSW hd
              try simp only [Nat.zero_add, Nat.reduceAdd] at hd ⊢
              have h6 : g 6 = _ := hd 6 (by decide) (by kernel_rfl)
              with_reducible refine OpGives.pre_reads [(33, 6)] 57 ?_ ?_ ?_
              · rfl
              · kernel_rfl
              simp only [List.map_cons, List.map_nil]
              subst hSW; refine OpGives.val (w' := wr.drew) ?_ ⟨rfl, rfl⟩; go_simp
            case s8 =>
              intro g W hSW hd
              try simp only [Nat.zero_add, Nat.reduceAdd] at hd ⊢
              with_reducible refine OpGives.pre_reads [] 57 ?_ ?_ ?_
              · rfl
              · kernel_rfl
              simp only [List.map_cons, List.map_nil]
              refine OpGives.val (w' := W) ?_ ⟨rfl, rfl⟩
              go_simp
              try with_reducible rfl
            case s9 =>
              intro g W hSW hd
              try simp only [Nat.zero_add, Nat.reduceAdd] at hd ⊢
              have h7 : g 7 = _ := hd 7 (by decide) (by kernel_rfl)
              have h8 : g 8 = _ := hd 8 (by decide) (by kernel_rfl)
              with_reducible refine OpGives.pre_reads [(34, 7), (35, 8)] 57 ?_ ?_ ?_
              · rfl
              · kernel_rfl
              simp only [List.map_cons, List.map_nil]
              refine OpGives.val (w' := W) ?_ ⟨rfl, rfl⟩
              go_simp
              try with_reducible rfl
            case s10 =>
              intro g W hSW hd
              try simp only [Nat.zero_add, Nat.reduceAdd] at hd ⊢
              have h9 : g 9 = _ := hd 9 (by decide) (by kernel_rfl)
              with_reducible refine OpGives.pre_reads [(36, 9)] 57 ?_ ?_ ?_
              · rfl
              · kernel_rfl
              simp only [List.map_cons, List.map_nil]
              refine OpGives.val (w' := W) ?_ ⟨rfl, rfl⟩
              go_simp
              try with_reducible rfl
            case s11 =>
              intro g W hSW hd
              try simp only [Nat.zero_add, Nat.reduceAdd] at hd ⊢
              have h10 : g 10 = _ := hd 10 (by decide) (by kernel_rfl)
              with_reducible refine OpGives.pre_reads [(37, 10)] 57 ?_ ?_ ?_
              · rfl
              · kernel_rfl
              simp only [List.map_cons, List.map_nil]
              subst hSW; refine OpGives.val (w' := wr.drew) ?_ ⟨rfl, rfl⟩; go_simp
            case s12 =>
              intro g W hSW hd
              try simp only [Nat.zero_add, Nat.reduceAdd] at hd ⊢
              with_reducible refine OpGives.pre_reads [] 57 ?_ ?_ ?_
              · rfl
              · kernel_rfl
              simp only [List.map_cons, List.map_nil]
              refine OpGives.val (w' := W) ?_ ⟨rfl, rfl⟩
              go_simp
              try with_reducible rfl
            case s13 =>
              intro g W hSW hd
              try simp only [Nat.zero_add, Nat.reduceAdd] at hd ⊢
              have h12 : g 12 = _ := hd 12 (by decide) (by kernel_rfl)
              with_reducible refine OpGives.pre_reads [(39, 12)] 57 ?_ ?_ ?_
              · rfl
              · kernel_rfl
              simp only [List.map_cons, List.map_nil]
              refine OpGives.val (w' := W) ?_ ⟨rfl, rfl⟩
              go_simp
              try with_reducible rfl
            case s14 =>
              intro g W hSW hd
              try simp only [Nat.zero_add, Nat.reduceAdd] at hd ⊢
              have h13 : g 13 = _ := hd 13 (by decide) (by kernel_rfl)
              with_reducible refine OpGives.pre_reads [(40, 13)] 57 ?_ ?_ ?_
              · rfl
              · kernel_rfl
              simp only [List.map_cons, List.map_nil]
              refine OpGives.val (w' := W) ?_ ⟨rfl, rfl⟩
              go_simp
              try with_reducible rfl
            case s15 =>
              intro g W hSW hd
              try simp only [Nat.zero_add, Nat.reduceAdd] at hd ⊢
              have h14 : g 14 = _ := hd 14 (by decide) (by kernel_rfl)
              with_reducible refine OpGives.pre_reads [(41, 14)] 57 ?_ ?_ ?_
              · rfl
              · kernel_rfl
              simp only [List.map_cons, List.map_nil]
              subst hSW; refine OpGives.val (w' := wr.drew) ?_ ⟨rfl, rfl⟩; go_simp
            case s16 =>
              intro g W hSW hd
              try simp only [Nat.zero_add, Nat.reduceAdd] at hd ⊢
              with_reducible refine OpGives.pre_reads [] 57 ?_ ?_ ?_
              · rfl
              · kernel_rfl
              simp only [List.map_cons, List.map_nil]
              refine OpGives.val (w' := W) ?_ ⟨rfl, rfl⟩
              go_simp
              try with_reducible rfl
            case s17 =>
              intro g W hSW hd
              try simp only [Nat.zero_add, Nat.reduceAdd] at hd ⊢
              have h15 : g 15 = _ := hd 15 (by decide) (by kernel_rfl)
              have h16 : g 16 = _ := hd 16 (by decide) (by kernel_rfl)
              with_reducible refine OpGives.pre_reads [(42, 15), (43, 16)] 57 ?_ ?_ ?_
              · rfl
              · kernel_rfl
              simp only [List.map_cons, List.map_nil]
              refine OpGives.val (w' := W) ?_ ⟨rfl, rfl⟩
              go_simp
              try with_reducible rfl
            case s18 =>
              intro g W hSW hd
              try simp only [Nat.zero_add, Nat.reduceAdd] at hd ⊢
              have h17 : g 17 = _ := hd 17 (by decide) (by kernel_rfl)
              with_reducible refine OpGives.pre_reads [(44, 17)] 57 ?_ ?_ ?_
              · rfl
              · kernel_rfl
              simp only [List.map_cons, List.map_nil]
              refine OpGives.val (w' := W) ?_ ⟨rfl, rfl⟩
              go_simp
              try with_reducible rfl
            case s19 =>
              intro g W hSW hd
              try simp only [Nat.zero_add, Nat.reduceAdd] at hd ⊢
              have h18 : g 18 = _ := hd 18 (by decide) (by kernel_rfl)
              with_reducible refine OpGives.pre_reads [(45, 18)] 57 ?_ ?_ ?_
              · rfl
              · kernel_rfl
              simp only [List.map_cons, List.map_nil]
              subst hSW; refine OpGives.val (w' := wr.drew) ?_ ⟨rfl, rfl⟩; go_simp
            case s20 =>
              intro g W hSW hd
              try simp only [Nat.zero_add, Nat.reduceAdd] at hd ⊢
              have h3 : g 3 = _ := hd 3 (by decide) (by kernel_rfl)
              have h11 : g 11 = _ := hd 11 (by decide) (by kernel_rfl)
              with_reducible refine OpGives.pre_reads [(30, 3), (38, 11)] 57 ?_ ?_ ?_
              · rfl
              · kernel_rfl
              simp only [List.map_cons, List.map_nil]
              subst hSW; refine OpGives.val (w' := wr.drew) ?_ ⟨rfl, rfl⟩; go_simp
            case hS => rintro a c h rfl; exact h
            case h0 => rfl
            case fin =>
              intro v W hSW hf
              subst hSW
              have h19 : v 19 = _ := hf 19 (Nat.lt_of_lt_of_eq (by decide : 19 < 21) rfl)
              have h20 : v 20 = _ := hf 20 (Nat.lt_of_lt_of_eq (by decide : 20 < 21) rfl)
              clear hf
              generalize hF : Ord.pre _ _ v _ = F
              rw [Ord.pre_lit [some 27, some 28, some 29, some 30, some 31, some 32, some 33, some 34, some 35, some 36, some 37, some 38, some 39, some 40, some 41, some 42, some 43, some 44, some 45, some 46, some 47]
                (by kernel_rfl)] at hF
              simp only [Ord.puts, Nat.zero_add, Nat.reduceAdd] at hF
              subst hF
              rw [h19, h20]
              clear h19 h20
              refine any_one (i := 21) (by kernel_rfl) ?_
              refine wpOp_skip (w' := wr.drew.setCell ⟨g, j, none⟩ (.string qs)) rfl rfl (by go_simp) ?_
              refine wpAny_done (by kernel_rfl) ?_ _
              simp only [List.getElem_toArray, List.getElem_cons_succ, List.getElem_cons_zero]
              go_frame
              have hkd : RMid w b sv wv R zs k (t + 1) (wr.drew.setCell ⟨g, j, none⟩ (.string qs)) := by
                have e : wr.drew.setCell ⟨g, j, none⟩ (.string qs) = (wr.setCell ⟨g, j, none⟩ (.string qs)).drew := rfl
                rw [e]
                refine ⟨.inl ⟨by rw [HTC.out]; simp, ?_⟩, HMM.out.drew⟩
                rw [HSV.out]
                exact HST.out.kept (Mod.drew (Mod.refl (fun _ => False) _)) (fun _ _ => id)
              have HKD := Lib.hid hkd
              clear hkd cold fold c0 c1 cq1 cq2 cz
              generalize wr.drew.setCell ⟨g, j, none⟩ (.string qs) = wy at *
              go_wp2_with fail
              go_roundw
              case rel => exact ⟨t + 1, by omega, by go_num, HKD.out⟩
              case measure => simp [intOf]; omega
          · have hzk' : (z == (k : Int)) = false := by simpa using hzk
            have hkz : ((k : Int) == z) = false := by simpa using fun e => hzk e.symm
            have hkd : RMid w b sv wv R zs k (t + 1) wr := by
              obtain ⟨h, hm⟩ := hmid
              refine ⟨?_, hm⟩
              rw [HTC.out, hkz, Bool.or_false]; exact h
            have HKD := Lib.hid hkd
            clear hkd hmid hkz
            go_wp2_with fail
            go_roundw
            case rel => exact ⟨t + 1, by omega, by go_num, HKD.out⟩
            case measure => simp [intOf]; omega
        · obtain rfl : t = kn := by omega
          have hkd : RKept w b sv wv R (fun k => zs.contains (k : Int)) (k + 1) wr := by
            obtain ⟨h, hm⟩ := hmid
            rcases h with ⟨_, h⟩ | ⟨hc, h⟩
            · exact ⟨h, hm⟩
            · refine ⟨?_, hm⟩
              rw [RS.kept_no (p := fun k => zs.contains (k : Int)) HQ.out (contains_all hc (by have := HZL.out; omega))]
              exact h
          have HKD := Lib.hid hkd
          clear hkd hmid
          go_wp2_with fail
          go_roundw
          case rel => exact ⟨k + 1, by omega, by go_num, HKD.out⟩
          case measure => simp [intOf]; omega
    · obtain rfl : k = m := by omega
      have f1 := HKE.out.1.cell.free 1
      have f2 := HKE.out.1.cell.free 2
      have f3 := HKE.out.1.cell.free 3
      obtain ⟨_, _, c2, c3⟩ := HKE.out.1.cell.cells
      have hcs := ((HKE.out.1.cell.set1 (.slice none 0 0)).set2 (-1)).set3 false
      have hmb : Mod (fun i => i = b) wr (((wr.setCell ⟨b, 1, none⟩ (.slice none 0 0)).setCell ⟨b, 2, none⟩ (.int .i64 (-1))).setCell ⟨b, 3, none⟩ (.bool false)) :=
        Mod.trans (F := fun i => i = b) (G := fun i => i = b) (Mod.trans (F := fun i => i = b) (G := fun i => i = b) (Mod.setCell _ _ _ rfl) (Mod.setCell _ _ _ rfl) (fun _ e => .inl e)) (Mod.setCell _ _ _ rfl) (fun _ e => .inl e)
      have hd : RDid w b sv wv (R.crash zs) (((wr.setCell ⟨b, 1, none⟩ (.slice none 0 0)).setCell ⟨b, 2, none⟩ (.int .i64 (-1))).setCell ⟨b, 3, none⟩ (.bool false)) := by
        have hk := HKE.out.1
        rw [HM.out] at hk
        exact ⟨sv, .slice none 0 0, ⟨hcs, ownsRow_mod hk.s hmb (fun k hk' e => hk.neS (by rw [hk', e])), World.ownsRow_nil _ _ _ _, hk.few, by simp [RS.crash], fun q hq => by cases hq⟩,
          fun k hk => by rcases hk with e | e | e; exact .inl (.inl e); exact .inl (.inr (.inl e)); simp [Value.ownBlock] at e, (HKE.out.2.mono (fun _ e => Or.inr (Or.inl e))).trans hmb (fun _ e => .inl (.inl e))⟩
      have HD := Lib.hid hd
      clear hcs hmb hd
      go_wp2_with fail
      go_end0
      exact ⟨rfl, HD.out⟩
end Go.Proofs.Ytjnbdikhajnciaa.Drum
