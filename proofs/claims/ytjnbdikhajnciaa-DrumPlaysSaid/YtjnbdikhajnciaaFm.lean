/- DrumPlays walked. -/
import Derived.Test.YtjnbdikhajnciaaFl
import Derived.Test.YtjnbdikhajnciaaFj
import Derived.Test.YtjnbdikhajnciaaEn
namespace Go.Proofs.Ytjnbdikhajnciaa.Drum
open Go.RowKit Go.Proofs.Ytjnbdikhajnciaa.Ord Go.Proofs.YtjnbdikhajnciaaW.PrintWords Go.Proofs.Ytjnbdikhajnciaa.Base
set_option linter.unusedVariables false
set_option linter.unusedSimpArgs false

theorem Sep.sub {B : Nat} {w W : World} {l l' : List Thing} (h : Sep B w W l) (hs : l'.Sublist l) : Sep B w W l' :=
  ⟨h.below, h.le, fun t ht => h.all t (hs.subset ht), h.apart.sublist hs⟩
/-- Both drums, and a copy of each from before. -/
def PlaysAt (w : World) (b rb cb qb k : Nat) (W : World) : Prop := ∃ D R Dc Rc td tr tc tq, IsDrum b D td ∧ IsRef rb R tr ∧ IsDrum cb Dc tc ∧ IsRef qb Rc tq ∧ Sim D R ∧ Sim Dc Rc ∧ D.loose.length ≤ k ∧ Dc.loose.length ≤ 1000000 ∧ Sep w.heap.size w W [td, tr, tc, tq]
theorem PlaysAt.copied {w W : World} {b rb k : Nat} {D Dc : DS} {R Rc : RS} {td tr tc tq t5 t6 : Thing} {cb qb : Nat} (hd : IsDrum b D td) (hr : IsRef rb R tr) (hs : Sim D R) (hl : D.loose.length ≤ k) (hk : k ≤ 1000000) {l : List Thing}
    (h5 : IsDrum cb D t5) (h6 : IsRef qb R t6) (h : Sep w.heap.size w W (t6 :: tr :: t5 :: td :: l)) : PlaysAt w b rb cb qb k W := by
  refine ⟨D, R, D, R, td, tr, t5, t6, hd, hr, h5, h6, hs, hs, hl, by omega, ?_⟩
  have h1 : Sep w.heap.size w W [t6, tr, t5, td] := h.sub (by
    refine List.Sublist.cons_cons _ (List.Sublist.cons_cons _ (List.Sublist.cons_cons _ (List.Sublist.cons_cons _ (List.nil_sublist _))))
    )
  refine h1.perm ?_
  have p1 : [t6, tr, t5, td].Perm [tr, t6, t5, td] := List.Perm.swap _ _ _
  have p2 : [t6, tr, t5, td].Perm ([td, t5, tr, t6]) := (List.reverse_perm [t6, tr, t5, td]).symm
  exact p2.trans (List.Perm.cons _ (List.Perm.swap _ _ _))
set_option maxRecDepth 100000 in
set_option maxHeartbeats 32000000 in
theorem plays_walk (n : Int) (a : Option Addr) (len cap : Nat) (acts : List ActV) (w : World) (h : ActsIn w.heap.size w a len acts) :
    Calls Try.prog 10 #[.int .i64 n, .slice a len cap] w fun e w' => e = .returned (.bool true) ∧ Below w.heap.size w w' := by
  have hfew := few_at w.heap.size a len cap acts w h
  cases hb : fewB acts with
  | false =>
    rw [hb] at hfew
    have HF := Lib.hid hfew
    clear hfew h hb
    go_enter Try.func10, Try.ntmps10
    go_wp2_with fail
    refine HF.out.mono ?_
    rintro e w' ⟨rfl, rfl⟩
    go_wp2_with fail
    refine (lives_any _).mono ?_
    rintro e w' ⟨rfl, hn⟩
    go_wp2_with fail
    go_ret
    exact ⟨rfl, hn⟩
  | true =>
    rw [hb] at hfew
    have HF := Lib.hid hfew
    have hlen : len ≤ 150 := by
      unfold fewB at hb; simp only [Bool.and_eq_true, decide_eq_true_eq] at hb
      have := h.len; omega
    have hok : ∀ v ∈ acts, ActOk w.heap.size w v := by
      unfold fewB at hb; simp only [Bool.and_eq_true, decide_eq_true_eq] at hb
      exact fun v hv => (h.all v hv).ok (List.all_eq_true.1 hb.2 v hv)
    have HOK := Lib.hid hok
    have H := Lib.hid h
    clear hfew hb hok h
    by_cases hn : n < 1 ∨ 4096 < n
    · have hb1 := fun W => new_bad n hn W
      have hb2 := fun W => rnew_bad n hn W
      have HB1 := Lib.hid hb1
      have HB2 := Lib.hid hb2
      clear hb1 hb2 hn
      go_enter Try.func10, Try.ntmps10
      go_wp2_with fail
      refine HF.out.mono ?_
      rintro e w' ⟨rfl, rfl⟩
      go_wp2_with fail
      refine (HB1.out _).mono ?_
      rintro e w' ⟨rfl, rfl⟩
      go_wp2_with fail
      refine (HB2.out _).mono ?_
      rintro e w' ⟨rfl, rfl⟩
      go_wp2_with fail
      refine (lives_any _).mono ?_
      rintro e w' ⟨rfl, hn⟩
      go_wp2_with fail
      go_ret
      exact ⟨rfl, hn⟩
    · obtain ⟨N, rfl⟩ : ∃ N : Nat, n = (N : Int) := ⟨n.toNat, by omega⟩
      have hN0 : 0 < N := by omega
      have hN1 : N ≤ 4096 := by omega
      clear hn
      go_enter Try.func10, Try.ntmps10
      go_wp2_with fail
      refine HF.out.mono ?_
      rintro e w' ⟨rfl, rfl⟩
      go_wp2_with fail
      refine (new_sep (Sep.start w) N hN0 hN1).mono ?_
      rintro e W1 ⟨v, rfl, b, td, rfl, htd, hs1⟩
      have HTD := Lib.hid htd
      have HS1 := Lib.hid hs1
      clear htd hs1
      go_wp2_with fail
      refine (rnew_sep HS1.out N hN0 hN1).mono ?_
      rintro e W2 ⟨v, rfl, rb, tr, rfl, htr, hs2⟩
      have HTR := Lib.hid htr
      have HS2 := Lib.hid hs2
      clear htr hs2
      go_wp2_with fail
      refine (copy_sep HS2.out.swap HTD.out (by simp [DS.zero])).mono ?_
      rintro e W3 ⟨v, rfl, cb, tc, rfl, htc, hs3⟩
      have HTC := Lib.hid htc
      have HS3 := Lib.hid (hs3.perm ((List.Perm.cons _ (List.Perm.swap _ _ _)).trans (List.Perm.swap _ _ _)))
      clear htc hs3
      go_wp2_with fail
      refine (rcopy_sep HS3.out HTR.out).mono ?_
      rintro e W4 ⟨v, rfl, qb, tq, rfl, htq, hs4⟩
      have hpl := PlaysAt.copied (Dc := DS.zero N) (Rc := RS.zero N) (tc := tc) (tq := tq) (k := 0) HTD.out HTR.out (sim_zero N) (Nat.le_refl _) (by decide) HTC.out htq hs4
      have HPL := Lib.hid hpl
      clear htq hs4 hpl
      go_wp2_with fail
      obtain ⟨hf, hhf⟩ : ∃ hf : Nat, (len : Int) / 2 = (hf : Int) := ⟨len / 2, by omega⟩
      go_loopw [9, 10, 11] (fun c q i wr => ∃ k cb qb : Nat, k ≤ len ∧ i = .int .i64 (k : Int) ∧ c = .pointer (some ⟨cb, 0, none⟩) ∧ q = .pointer (some ⟨qb, 0, none⟩) ∧ PlaysAt w b rb cb qb k wr) (fun _ _ i _ => len - (intOf i).toNat)
      case atStart => exact ⟨0, cb, qb, Nat.zero_le _, rfl, rfl, rfl, HPL.out⟩
      case round =>
        obtain ⟨k, cb, qb, hk, rfl, rfl, rfl, hpl⟩ := hrel
        by_cases hlt : k < len
        · obtain ⟨ad, rfl, hb, hcs⟩ := H.out.cells (by omega)
          obtain ⟨v, hv⟩ : ∃ v, acts[k]? = some v := ⟨_, List.getElem?_eq_getElem (by have := H.out.len; omega)⟩
          obtain ⟨c0, c1, c2, c3⟩ := hcs k v hv
          have hav : ActOk w.heap.size w v := HOK.out v (List.mem_of_getElem? hv)
          rw [add_next] at c1 c2 c3
          have far : ∀ W', Below w.heap.size w W' → W'.cell? (ad.add (k * 4)) = some (.int .i64 v.kind) ∧ W'.cell? ⟨(ad.add (k * 4)).block, (ad.add (k * 4)).off + 1, none⟩ = some (.int .i64 v.i) ∧ W'.cell? ⟨(ad.add (k * 4)).block, (ad.add (k * 4)).off + 2, none⟩ = some (.string v.s) ∧ W'.cell? ⟨(ad.add (k * 4)).block, (ad.add (k * 4)).off + 3, none⟩ = some (.slice v.ka v.kn v.kc) := fun W' hW => by
            have hbk : (ad.add (k * 4)).block < w.heap.size := by rw [add_block]; exact hb
            exact ⟨(hW.cell (p := ad.add (k * 4)) hbk).trans c0, (hW.cell (p := ⟨(ad.add (k * 4)).block, (ad.add (k * 4)).off + 1, none⟩) hbk).trans c1, (hW.cell (p := ⟨(ad.add (k * 4)).block, (ad.add (k * 4)).off + 2, none⟩) hbk).trans c2, (hW.cell (p := ⟨(ad.add (k * 4)).block, (ad.add (k * 4)).off + 3, none⟩) hbk).trans c3⟩
          have FAR := Lib.hid far
          have HAV := Lib.hid hav
          clear far c0 c1 c2 c3 hcs hv hav hb
          by_cases hmid : k = hf
          · subst hmid
            obtain ⟨D, R, Dc, Rc, td, tr, tc, tq, htd, htr, htc, htq, hsim, hsimc, hll, hlc, hsep⟩ := hpl
            have HTD := Lib.hid htd
            have HTR := Lib.hid htr
            have HSIM := Lib.hid hsim
            have HLL := Lib.hid hll
            have HSEP := Lib.hid hsep
            clear htd htr htc htq hsim hsimc hll hlc hsep
            go_wp2_with fail
            refine (copy_sep HSEP.out HTD.out (by have := HLL.out; omega)).mono ?_
            rintro e W3 ⟨v', rfl, cb', tc', rfl, htc', hs3⟩
            have HTC := Lib.hid htc'
            have HS3 := Lib.hid (hs3.perm (l' := tr :: tc' :: td :: [tc, tq]) ((List.Perm.cons _ (List.Perm.swap _ _ _)).trans (List.Perm.swap _ _ _)))
            clear htc' hs3
            go_wp2_with fail
            refine (rcopy_sep HS3.out HTR.out).mono ?_
            rintro e W4 ⟨v', rfl, qb', tq', rfl, htq', hs4⟩
            have hpl := PlaysAt.copied (Dc := D) (Rc := R) (tc := tc') (tq := tq') (k := k) HTD.out HTR.out HSIM.out HLL.out (by omega) HTC.out htq' hs4
            clear htq' hs4
            obtain ⟨D1, R1, Dc1, Rc1, td1, tr1, tc1, tq1, htd1, htr1, htc1, htq1, hsim1, hsimc1, hll1, hlc1, hsep1⟩ := hpl
            obtain ⟨c0, c1, c2, c3⟩ := FAR.out _ hsep1.below
            have hst := step_at w.heap.size w _ [tc1, tq1] b rb D1 R1 v ⟨td1, tr1, htd1, htr1, hsep1⟩ hsim1 (by omega) HAV.out
            have HST := Lib.hid hst
            have HSIM1 := Lib.hid hsim1
            have HSC1 := Lib.hid hsimc1
            have HLL1 := Lib.hid hll1
            have HLC1 := Lib.hid hlc1
            have HTC1 := Lib.hid htc1
            have HTQ1 := Lib.hid htq1
            clear hst hsim1 hsimc1 hll1 hlc1 htd1 htr1 htc1 htq1 hsep1
            go_wp2_with fail
            refine HST.out.mono ?_
            rintro e W5 ⟨rfl, td5, tr5, htd5, htr5, hs5⟩
            have hsim5 := (sim_step HSIM1.out v HAV.out.i).2
            have hl5 := (step_len D1 v).2
            have mk : ∀ W', Sep w.heap.size w W' (td5 :: tr5 :: [tc1, tq1]) → PlaysAt w b rb cb' qb' (k + 1) W' := fun W' hs => ⟨_, _, Dc1, Rc1, td5, tr5, tc1, tq1, htd5, htr5, HTC1.out, HTQ1.out, hsim5, HSC1.out, by have := HLL1.out; show (D1.step v).2.loose.length ≤ k + 1; omega, HLC1.out, hs⟩
            have MK := Lib.hid mk
            have HS5 := Lib.hid hs5
            have hal := alike_at w.heap.size w W5 [tc1, tq1] b rb (D1.step v).2 (R1.step v).2 td5 tr5 hs5 htd5 htr5 hsim5 (by have := HLL1.out; omega)
            have HAL := Lib.hid hal
            clear htd5 htr5 hs5 hsim5 hl5 mk hal c0 c1 c2 c3
            by_cases h8 : (k : Int) % 8 = 7
            · go_wp2_with fail
              refine HAL.out.mono ?_
              rintro e W6 ⟨rfl, hs6⟩
              have HPL6 := Lib.hid (MK.out W6 hs6)
              clear hs6
              go_wp2_with fail
              go_roundw
              case rel => exact ⟨k + 1, cb', qb', by omega, by go_num, rfl, rfl, HPL6.out⟩
              case measure => simp [intOf]; omega
            · have h8' : ((k : Int) % 8 == 7) = false := by simpa using h8
              have HPL6 := Lib.hid (MK.out W5 HS5.out)
              go_wp2_with fail
              go_roundw
              case rel => exact ⟨k + 1, cb', qb', by omega, by go_num, rfl, rfl, HPL6.out⟩
              case measure => simp [intOf]; omega
          · have hmid' : ((k : Int) == (hf : Int)) = false := by rw [beq_eq_false_iff_ne]; omega
            clear hmid
            obtain ⟨D1, R1, Dc1, Rc1, td1, tr1, tc1, tq1, htd1, htr1, htc1, htq1, hsim1, hsimc1, hll1, hlc1, hsep1⟩ := hpl
            obtain ⟨c0, c1, c2, c3⟩ := FAR.out _ hsep1.below
            have hst := step_at w.heap.size w _ [tc1, tq1] b rb D1 R1 v ⟨td1, tr1, htd1, htr1, hsep1⟩ hsim1 (by omega) HAV.out
            have HST := Lib.hid hst
            have HSIM1 := Lib.hid hsim1
            have HSC1 := Lib.hid hsimc1
            have HLL1 := Lib.hid hll1
            have HLC1 := Lib.hid hlc1
            have HTC1 := Lib.hid htc1
            have HTQ1 := Lib.hid htq1
            clear hst hsim1 hsimc1 hll1 hlc1 htd1 htr1 htc1 htq1 hsep1
            go_wp2_with fail
            refine HST.out.mono ?_
            rintro e W5 ⟨rfl, td5, tr5, htd5, htr5, hs5⟩
            have hsim5 := (sim_step HSIM1.out v HAV.out.i).2
            have hl5 := (step_len D1 v).2
            have mk : ∀ W', Sep w.heap.size w W' (td5 :: tr5 :: [tc1, tq1]) → PlaysAt w b rb cb qb (k + 1) W' := fun W' hs => ⟨_, _, Dc1, Rc1, td5, tr5, tc1, tq1, htd5, htr5, HTC1.out, HTQ1.out, hsim5, HSC1.out, by have := HLL1.out; show (D1.step v).2.loose.length ≤ k + 1; omega, HLC1.out, hs⟩
            have MK := Lib.hid mk
            have HS5 := Lib.hid hs5
            have hal := alike_at w.heap.size w W5 [tc1, tq1] b rb (D1.step v).2 (R1.step v).2 td5 tr5 hs5 htd5 htr5 hsim5 (by have := HLL1.out; omega)
            have HAL := Lib.hid hal
            clear htd5 htr5 hs5 hsim5 hl5 mk hal c0 c1 c2 c3
            by_cases h8 : (k : Int) % 8 = 7
            · go_wp2_with fail
              refine HAL.out.mono ?_
              rintro e W6 ⟨rfl, hs6⟩
              have HPL6 := Lib.hid (MK.out W6 hs6)
              clear hs6
              go_wp2_with fail
              go_roundw
              case rel => exact ⟨k + 1, cb, qb, by omega, by go_num, rfl, rfl, HPL6.out⟩
              case measure => simp [intOf]; omega
            · have h8' : ((k : Int) % 8 == 7) = false := by simpa using h8
              have HPL6 := Lib.hid (MK.out W5 HS5.out)
              go_wp2_with fail
              go_roundw
              case rel => exact ⟨k + 1, cb, qb, by omega, by go_num, rfl, rfl, HPL6.out⟩
              case measure => simp [intOf]; omega
        · have hkl : k = len := by omega
          obtain ⟨D, R, Dc, Rc, td, tr, tc, tq, htd, htr, htc, htq, hsim, hsimc, hll, hlc, hsep⟩ := hpl
          have hal := alike_at w.heap.size w wr [tc, tq] b rb D R td tr hsep htd htr hsim (by omega)
          have HAL := Lib.hid hal
          have HTC := Lib.hid htc
          have HTQ := Lib.hid htq
          have HSC := Lib.hid hsimc
          have HLC := Lib.hid hlc
          clear htd htr htc htq hsim hsimc hll hlc hsep hal hkl
          go_wp2_with fail
          refine HAL.out.mono ?_
          rintro e W5 ⟨rfl, hs5⟩
          have hp : [td, tr, tc, tq].Perm [tc, tq, td, tr] := by
            have := List.perm_append_comm (l₁ := [td, tr]) (l₂ := [tc, tq])
            simpa using this
          have HS5 := Lib.hid (hs5.perm hp)
          clear hs5 hp
          go_wp2_with fail
          refine (alike_at w.heap.size w W5 [td, tr] cb qb Dc Rc tc tq HS5.out HTC.out HTQ.out HSC.out HLC.out).mono ?_
          rintro e W6 ⟨rfl, hs6⟩
          have HS6 := Lib.hid hs6
          clear hs6
          go_wp2_with fail
          refine (lives_any _).mono ?_
          rintro e W7 ⟨rfl, hn7⟩
          have HS7 := Lib.hid (HS6.out.grown hn7)
          clear hn7
          go_wp2_with fail
          go_ret
          exact ⟨rfl, HS7.out.below⟩
end Go.Proofs.Ytjnbdikhajnciaa.Drum
