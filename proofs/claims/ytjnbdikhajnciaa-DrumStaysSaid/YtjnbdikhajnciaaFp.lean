/- DrumStays walked. -/
import Derived.Test.YtjnbdikhajnciaaFo
namespace Go.Proofs.Ytjnbdikhajnciaa.Drum
open Go.RowKit Go.Proofs.Ytjnbdikhajnciaa.Ord Go.Proofs.YtjnbdikhajnciaaW.PrintWords Go.Proofs.Ytjnbdikhajnciaa.Base
set_option linter.unusedVariables false
set_option linter.unusedSimpArgs false
attribute [local irreducible] OpGives
attribute [local go_sem] rdl_const rdl_func rdl_global rdl_nil rdl_cons

theorem ints_none (W : World) : IntsAt W .none 0 [] := ⟨rfl, by decide, fun h => absurd h (by decide)⟩
def Stays1 (w : World) (b wb sb : Nat) (S : List (List UInt8)) (k : Nat) (W : World) : Prop := ∃ D td, IsDrum b D td ∧ PD D S [] ∧ Sep w.heap.size w W (staysL td wb sb (List.replicate 6 (.slice none 0 0)) (ssAt S k) (List.replicate 6 []))
def Stays2 (w : World) (b wb sb : Nat) (S : List (List UInt8)) (L : List (Nat × List UInt8)) (W : World) : Prop := ∃ D td vs, IsDrum b D td ∧ PD D S L ∧ vs.length = 6 ∧ Sep w.heap.size w W (staysL td wb sb vs (S.map str) (rsOf L))
theorem Stays1.two {w : World} {b wb sb : Nat} {S : List (List UInt8)} {W : World} (h : Stays1 w b wb sb S 6 W) (hS : S.length = 6) : Stays2 w b wb sb S [] W := by
  obtain ⟨D, td, h1, h2, h3⟩ := h
  rw [ssAt_end S hS] at h3
  exact ⟨D, td, _, h1, h2, by simp, h3⟩
theorem read_pd {B : Nat} {w W : World} {l : List Thing} {b : Nat} {D : DS} {t : Thing} {S : List (List UInt8)} (h : Sep B w W (t :: l)) (ht : IsDrum b D t) (hp : PD D S []) {i : Nat} (hi : i < S.length) :
    Calls Try.prog 26 #[.pointer (some ⟨b, 0, none⟩), .int .i64 (i : Int)] W fun e W' => e = .returned (.tuple #[.string (str (S.getD i [])), .int .i64 0]) ∧ Sep B w W' (t :: l) :=
  (read_sep h ht (by rw [hp.loose]; decide) (i : Int)).mono fun e W' ⟨he, hs⟩ => ⟨by rw [he, hp.read hi]; rfl, hs⟩
theorem sure_pd {B : Nat} {w W : World} {l : List Thing} {b : Nat} {D : DS} {t : Thing} {S L} (h : Sep B w W (t :: l)) (ht : IsDrum b D t) (hp : PD D S L) {i : Nat} (hi : i < S.length) :
    Calls Try.prog 34 #[.pointer (some ⟨b, 0, none⟩), .int .i64 (i : Int)] W fun e W' => e = .returned (.string (str (S.getD i []))) ∧ Sep B w W' (t :: l) :=
  (sure_sep h ht (i : Int)).mono fun e W' ⟨he, hs⟩ => ⟨by rw [he, hp.text hi]; rfl, hs⟩
theorem keep_last_str (L : List (Nat × List UInt8)) (S : List (List UInt8)) (i : Nat) (hi : i < S.length) : str ((keepN (fun _ => true) L S L.length).getD i []) = ((wroteOf L i).map str).getLast?.getD (str (S.getD i [])) := by
  rw [keep_last L S i hi, List.getLast?_map]
  cases (wroteOf L i).getLast? <;> rfl
set_option maxRecDepth 100000 in
set_option maxHeartbeats 64000000 in
theorem stays_walk (a1 : Option Addr) (len1 cap1 : Nat) (acts1 : List ActV) (a2 : Option Addr) (len2 cap2 : Nat) (acts2 : List ActV) (ka : Option Addr) (kn kc : Nat) (zs : List Int) (w : World)
    (h1 : ActsIn w.heap.size w a1 len1 acts1) (h2 : ActsIn w.heap.size w a2 len2 acts2) (hz : IntsIn w ka kn zs) (hkm : kn ≤ maxLen) (hko : 0 < kn → ∀ ad, ka = some ad → ad.block < w.heap.size) :
    Calls Try.prog 9 #[.slice a1 len1 cap1, .slice a2 len2 cap2, .slice ka kn kc] w fun e w' => e = .returned (.bool true) ∧ Below w.heap.size w w' := by
  have hf1 := few_at w.heap.size a1 len1 cap1 acts1 w h1
  have hf2 := few_at w.heap.size a2 len2 cap2 acts2 w h2
  unfold maxLen at hkm
  cases hb1 : fewB acts1 with
  | false =>
    rw [hb1] at hf1
    have HF := Lib.hid hf1
    clear hf1 hf2 h1 h2 hz hko hb1
    go_enter Try.func9, Try.ntmps9
    go_wp2_with fail
    refine HF.out.mono ?_
    rintro e w' ⟨rfl, rfl⟩
    go_wp2_with fail
    refine (lives_any _).mono ?_
    rintro e w' ⟨rfl, hn⟩
    go_wp2_with fail
    go_ret
    exact ⟨rfl, hn⟩
  | true =>
    rw [hb1] at hf1
    have HF1 := Lib.hid hf1
    cases hb2 : fewB acts2 with
    | false =>
      rw [hb2] at hf2
      have HF2 := Lib.hid hf2
      clear hf1 hf2 h1 h2 hz hko hb1 hb2
      go_enter Try.func9, Try.ntmps9
      go_wp2_with fail
      refine HF1.out.mono ?_
      rintro e w' ⟨rfl, rfl⟩
      go_wp2_with fail
      refine HF2.out.mono ?_
      rintro e w' ⟨rfl, rfl⟩
      go_wp2_with fail
      refine (lives_any _).mono ?_
      rintro e w' ⟨rfl, hn⟩
      go_wp2_with fail
      go_ret
      exact ⟨rfl, hn⟩
    | true =>
      rw [hb2] at hf2
      have HF2 := Lib.hid hf2
      by_cases hk2 : 200 < kn
      · have hk2' : (kn : Int) > 200 := by omega
        clear hf1 hf2 h1 h2 hz hko hb1 hb2
        go_enter Try.func9, Try.ntmps9
        go_wp2_with fail
        refine HF1.out.mono ?_
        rintro e w' ⟨rfl, rfl⟩
        go_wp2_with fail
        refine HF2.out.mono ?_
        rintro e w' ⟨rfl, rfl⟩
        go_wp2_with fail
        refine (lives_any _).mono ?_
        rintro e w' ⟨rfl, hn⟩
        go_wp2_with fail
        go_ret
        exact ⟨rfl, hn⟩
      · have hk2' : ¬ (kn : Int) > 200 := by omega
        have hbg := begun_at w.heap.size w w [] a1 len1 cap1 acts1 h1 hb1 (Sep.start w)
        have hl1 : len1 ≤ 150 := by
          unfold fewB at hb1; simp only [Bool.and_eq_true, decide_eq_true_eq] at hb1
          have := h1.len; omega
        have hl2 : len2 ≤ 150 := by
          unfold fewB at hb2; simp only [Bool.and_eq_true, decide_eq_true_eq] at hb2
          have := h2.len; omega
        have hok2 : ∀ v ∈ acts2, ActOk w.heap.size w v := by
          unfold fewB at hb2; simp only [Bool.and_eq_true, decide_eq_true_eq] at hb2
          exact fun v hv => (h2.all v hv).ok (List.all_eq_true.1 hb2.2 v hv)
        have hints : IntsAt w ka kn zs := ⟨hz.1, by omega, hz.2⟩
        have HBG := Lib.hid hbg
        have HOK := Lib.hid hok2
        have H2 := Lib.hid h2
        have HI := Lib.hid hints
        have HKO := Lib.hid hko
        clear hf1 hf2 h1 h2 hz hko hb1 hb2 hbg hok2 hints
        go_enter Try.func9, Try.ntmps9
        go_wp2_with fail
        refine HF1.out.mono ?_
        rintro e w' ⟨rfl, rfl⟩
        go_wp2_with fail
        refine HF2.out.mono ?_
        rintro e w' ⟨rfl, rfl⟩
        go_wp2_with fail
        refine HBG.out.mono ?_
        rintro e W1 ⟨b, D, t, rfl, ht, hsl, hll, hs⟩
        have HT := Lib.hid ht
        have HSL := Lib.hid hsl
        have HLL := Lib.hid hll
        have HS := Lib.hid hs
        clear ht hsl hll hs
        go_wp2_with fail
        refine (crash_sep HS.out HT.out (by have := HLL.out; omega) .none 0 0 [] (ints_none _) (fun h0 => absurd h0 (by decide))).mono ?_
        rintro e W2 ⟨t2, rfl, ht2, hs2⟩
        obtain ⟨S, hSd⟩ : ∃ S, S = keepN (fun k => ([] : List Int).contains (k : Int)) D.loose D.sure D.loose.length := ⟨_, rfl⟩
        have hpd : PD (D.crash []) S [] := by rw [hSd]; exact PD.crash []
        have hS6 : S.length = 6 := by rw [hSd, keepN_len]; exact HSL.out
        obtain ⟨sb, hsb⟩ : ∃ sb, sb = W2.heap.size := ⟨_, rfl⟩
        have hst := stays_start hs2 rfl
        rw [← hsb] at hst
        have h10 : Stays1 w b (sb + 1) sb S 0 ((W2.alloc (.cells (strCells (List.replicate 6 ByteArray.empty)).toArray 54)).alloc (.cells (List.replicate 6 (Value.slice none 0 0)).toArray 55)) := ⟨_, t2, ht2, hpd, hst⟩
        have H10 := Lib.hid h10
        have HS6 := Lib.hid hS6
        have HSB := Lib.hid hsb
        clear ht2 hs2 hSd hpd hS6 hst h10 hsb
        go_wp2_with fail
        rw [← HSB.out]
        go_loopw [10] (fun i wr => ∃ k : Nat, k ≤ 6 ∧ i = .int .i64 (k : Int) ∧ Stays1 w b (sb + 1) sb S k wr) (fun i _ => 6 - (intOf i).toNat)
        case atStart => exact ⟨0, by omega, rfl, H10.out⟩
        case round =>
          obtain ⟨k, hk, rfl, hst⟩ := hrel
          by_cases hlt : k < 6
          · obtain ⟨D1, td, htd, hpd, hsep⟩ := hst
            have htx := hpd.text (i := k) (by have := HS6.out; omega)
            have HTD := Lib.hid htd
            have HPD := Lib.hid hpd
            have HSEP := Lib.hid hsep
            have HTX := Lib.hid htx
            clear htd hpd hsep htx
            go_wp2_with fail
            refine (sure_sep HSEP.out HTD.out (k : Int)).mono ?_
            rw [HTX.out]
            rintro e W3 ⟨rfl, hs3⟩
            rw [show (⟨(S.getD k []).toArray⟩ : ByteArray) = str (S.getD k []) from rfl]
            obtain ⟨old, cold⟩ : ∃ old, W3.cell? ⟨sb, k, none⟩ = some (.string old) := ⟨_, stays_text hs3 (List.getElem?_eq_getElem (by rw [ssAt_len S HS6.out k hk]; exact hlt))⟩
            have fold := frozen_of_row W3 sb k _ _ (stays_sb hs3)
            have hput := stays_put hs3 k (str (S.getD k []))
            rw [ssAt_succ S HS6.out k hlt] at hput
            have HPUT := Lib.hid hput
            clear hput hs3
            go_wp2_with fail
            go_roundw
            case rel => exact ⟨k + 1, by omega, by go_num, D1, td, HTD.out, HPD.out, HPUT.out⟩
            case measure => simp [intOf]; omega
          · have hke : k = 6 := by omega
            rw [hke] at hst
            have hst2 := hst.two HS6.out
            have HST2 := Lib.hid hst2
            clear hst hst2 hke
            go_wp2_with fail
            go_loopw [11, 12] (fun nn i wr => ∃ (j : Nat) (L : List (Nat × List UInt8)), j ≤ len2 ∧ i = .int .i64 (j : Int) ∧ nn = .int .i64 (L.length : Int) ∧ L.length ≤ j ∧ Stays2 w b (sb + 1) sb S L wr) (fun _ i _ => len2 - (intOf i).toNat)
            case atStart => exact ⟨0, [], Nat.zero_le _, rfl, rfl, Nat.le_refl _, HST2.out⟩
            case round =>
              obtain ⟨j, L, hj, rfl, rfl, hlj, hst⟩ := hrel
              by_cases hlt2 : j < len2
              · obtain ⟨ad, rfl, hb, hcs⟩ := H2.out.cells (by omega)
                obtain ⟨⟨vk, vi, vstr, vka, vkn, vkc, vzs⟩, hv⟩ : ∃ v, acts2[j]? = some v := ⟨_, List.getElem?_eq_getElem (by have := H2.out.len; omega)⟩
                obtain ⟨c0, c1, c2, c3⟩ := hcs j _ hv
                have hav := HOK.out _ (List.mem_of_getElem? hv)
                have has : vstr.size ≤ 1000000 := hav.s
                rw [add_next] at c1 c2 c3
                simp only at c1 c2
                have far : ∀ W', Below w.heap.size w W' → W'.cell? ⟨(ad.add (j * 4)).block, (ad.add (j * 4)).off + 1, none⟩ = some (.int .i64 vi) ∧ W'.cell? ⟨(ad.add (j * 4)).block, (ad.add (j * 4)).off + 2, none⟩ = some (.string vstr) := fun W' hW => by
                  have hbk : (ad.add (j * 4)).block < w.heap.size := by rw [add_block]; exact hb
                  exact ⟨(hW.cell (p := ⟨(ad.add (j * 4)).block, (ad.add (j * 4)).off + 1, none⟩) hbk).trans c1, (hW.cell (p := ⟨(ad.add (j * 4)).block, (ad.add (j * 4)).off + 2, none⟩) hbk).trans c2⟩
                have FAR := Lib.hid far
                have HAS := Lib.hid has
                clear far c0 c1 c2 c3 hcs hv hav has hb
                obtain ⟨D1, td, vs, htd, hpd, hvl, hsep⟩ := hst
                obtain ⟨e1, e2⟩ := FAR.out wr hsep.below
                have HTD := Lib.hid htd
                have HPD := Lib.hid hpd
                have HVL := Lib.hid hvl
                have HSEP := Lib.hid hsep
                clear htd hpd hvl hsep
                go_wp2_with fail
                refine (sector_any vstr HAS.out _).mono ?_
                rintro e W3 ⟨rfl, hn3⟩
                have hs3 := HSEP.out.grown hn3
                have HS3 := Lib.hid hs3
                clear hs3 hn3
                go_wp2_with fail
                have hwr := write_sep HS3.out HTD.out vi (str (sec vstr)) (by show (sec vstr).toArray.size ≤ _; rw [List.size_toArray, sec_len]; decide) (by have := HPD.out.loose; rw [this]; omega)
                have hwe : D1.write vi (str (sec vstr)).data.toList = D1.write vi (sec vstr) := rfl
                rw [hwe] at hwr
                clear hwe
                by_cases hr : 0 ≤ vi ∧ vi < 6
                · obtain ⟨q, rfl⟩ : ∃ q : Nat, vi = (q : Int) := ⟨vi.toNat, by omega⟩
                  have hq6 : q < 6 := by omega
                  obtain ⟨hw1, hw2⟩ := HPD.out.write (q := q) (s := sec vstr) (sec_len _) (by have := HS6.out; omega)
                  refine hwr.mono ?_
                  rintro e W4 ⟨td4, rfl, htd4, hs4⟩
                  rw [hw1]
                  have HTD4 := Lib.hid htd4
                  have HPD4 := Lib.hid hw2
                  have HS4 := Lib.hid hs4
                  clear htd4 hw1 hw2 hs4 hwr hr e1 e2
                  have hq0 : ¬ (q : Int) < 0 := by omega
                  have hq5 : ¬ (q : Int) > 5 := by omega
                  obtain ⟨sv, hsv⟩ : ∃ sv, vs[q]? = some sv := ⟨_, List.getElem?_eq_getElem (by have := HVL.out; omega)⟩
                  obtain ⟨rq, hrq⟩ : ∃ rq, rq = (wroteOf L q).map str := ⟨_, rfl⟩
                  have hra := rsOf_at L q hq6
                  rw [← hrq] at hra
                  have hrl : rq.length ≤ 1000000 := by
                    have := wroteOf_len L q
                    rw [hrq, List.length_map]; omega
                  obtain ⟨hown, hbig⟩ := stays_row HS4.out hsv hra
                  have hne := ownsRow_ne hown (stays_wb HS4.out) (by decide)
                  have far4 : ∀ W, Mod (fun k => sv.ownBlock = some k) W4 W → W.heap[sb + 1]? = some (.cells vs.toArray 55 (0, 0)) ∧ W.cell? ⟨sb + 1, q, none⟩ = some sv ∧ W.cell? ⟨(ad.add (j * 4)).block, (ad.add (j * 4)).off + 2, none⟩ = some (.string vstr) ∧ ∀ k, sv.ownBlock = some k → k < W.heap.size := fun W hW => by
                    have hh := (hW.block (sb + 1) (Array.getElem?_eq_some_iff.1 (stays_wb HS4.out)).1 hne).trans (stays_wb HS4.out)
                    refine ⟨hh, ?_, (FAR.out W (HS4.out.below.trans (hW.below HS4.out.le (fun i e => hbig i e)))).2, fun k hk => Nat.lt_of_lt_of_le (hown.lt k hk).2 hW.size⟩
                    rw [cell_of_row _ _ _ _ _ _ hh]; simpa using hsv
                  have FAR4 := Lib.hid far4
                  have HSV := Lib.hid hsv
                  have HRQ := Lib.hid hrq
                  have HRA := Lib.hid hra
                  have HRL := Lib.hid hrl
                  have HOWN := Lib.hid hown
                  clear far4 hsv hrq hra hrl hown hbig hne
                  go_wp2_with fail
                  refine' wp_region_factsD 11 (S := (fun W => Mod (fun k => sv.ownBlock = some k) W4 W)) (A := (fun W => W.ownsRow 0 9 1 sv rq.length (strCells rq))) (R := (Mod (fun k => sv.ownBlock = some k))) (R0 := NewMem) (pd := (AppendedG 9 1 W4 sv rq.length (strCells (rq ++ [str (sec vstr)])))) [eqF _ _, eqF _ _, eqF _ (.pointer (some ⟨sb + 1, q, none⟩)), eqF _ sv, eqF _ _, eqF _ _, eqF _ (.pointer (some (ad.add (j * 4)))), eqF _ (.pointer (some ⟨(ad.add (j * 4)).block, (ad.add (j * 4)).off + 2, none⟩)), eqF _ (.string vstr), eqF _ (.string (str (sec vstr))), newsG sv 9 [.string (str (sec vstr))], noF _] (by kernel_rfl) (by kernel_rfl) ?hS ?hA ?hR ?hpd ?h0 (stepsD_cons ?s0 (stepsD_cons ?s1 (stepsD_cons ?s2 (stepsD_cons ?s3 (stepsD_cons ?s4 (stepsD_cons ?s5 (stepsD_cons ?s6 (stepsD_cons ?s7 (stepsD_cons ?s8 (stepsD_cons ?s9 (stepsD_cons ?s10 (stepsD_cons ?s11 (stepsD_nil))))))))))))) ?fin
                  case s0 =>
                    intro g W hSW _ hd
                    refine OpGives.ne (by decide) ?_
                    try simp only [Nat.zero_add, Nat.reduceAdd] at hd ⊢
                    with_reducible refine OpGives.pre_reads [] 209 ?_ ?_ ?_
                    · rfl
                    · kernel_rfl
                    simp only [List.map_cons, List.map_nil]
                    refine OpGives.val (w' := W) ?_ ⟨NewMem.refl _, rfl⟩
                    go_simp
                    try with_reducible rfl
                  case s1 =>
                    intro g W hSW _ hd
                    refine OpGives.ne (by decide) ?_
                    try simp only [Nat.zero_add, Nat.reduceAdd] at hd ⊢
                    with_reducible refine OpGives.pre_reads [] 209 ?_ ?_ ?_
                    · rfl
                    · kernel_rfl
                    simp only [List.map_cons, List.map_nil]
                    refine OpGives.val (w' := W) ?_ ⟨NewMem.refl _, rfl⟩
                    go_simp
                    try with_reducible rfl
                  case s2 =>
                    intro g W hSW _ hd
                    refine OpGives.ne (by decide) ?_
                    try simp only [Nat.zero_add, Nat.reduceAdd] at hd ⊢
                    have h1 : g 1 = _ := hd 1 (by decide) (by kernel_rfl)
                    with_reducible refine OpGives.pre_reads [(86, 1)] 209 ?_ ?_ ?_
                    · rfl
                    · kernel_rfl
                    simp only [List.map_cons, List.map_nil]
                    refine OpGives.val (v := .pointer (some ⟨sb + 1, q, none⟩)) (w' := W) ?_ ⟨NewMem.refl _, rfl⟩; go_simp; exact fun hh => absurd hh (by omega)
                  case s3 =>
                    intro g W hSW _ hd
                    refine OpGives.ne (by decide) ?_
                    try simp only [Nat.zero_add, Nat.reduceAdd] at hd ⊢
                    have h2 : g 2 = _ := hd 2 (by decide) (by kernel_rfl)
                    with_reducible refine OpGives.pre_reads [(87, 2)] 209 ?_ ?_ ?_
                    · rfl
                    · kernel_rfl
                    simp only [List.map_cons, List.map_nil]
                    have c1 := (FAR4.out W hSW).2.1; refine OpGives.val (w' := W) ?_ ⟨NewMem.refl _, rfl⟩; go_simp
                  case s4 =>
                    intro g W hSW _ hd
                    refine OpGives.ne (by decide) ?_
                    try simp only [Nat.zero_add, Nat.reduceAdd] at hd ⊢
                    with_reducible refine OpGives.pre_reads [] 209 ?_ ?_ ?_
                    · rfl
                    · kernel_rfl
                    simp only [List.map_cons, List.map_nil]
                    refine OpGives.val (w' := W) ?_ ⟨NewMem.refl _, rfl⟩
                    go_simp
                    try with_reducible rfl
                  case s5 =>
                    intro g W hSW _ hd
                    refine OpGives.ne (by decide) ?_
                    try simp only [Nat.zero_add, Nat.reduceAdd] at hd ⊢
                    with_reducible refine OpGives.pre_reads [] 209 ?_ ?_ ?_
                    · rfl
                    · kernel_rfl
                    simp only [List.map_cons, List.map_nil]
                    refine OpGives.val (w' := W) ?_ ⟨NewMem.refl _, rfl⟩
                    go_simp
                    try with_reducible rfl
                  case s6 =>
                    intro g W hSW _ hd
                    refine OpGives.ne (by decide) ?_
                    try simp only [Nat.zero_add, Nat.reduceAdd] at hd ⊢
                    have h4 : g 4 = _ := hd 4 (by decide) (by kernel_rfl)
                    have h5 : g 5 = _ := hd 5 (by decide) (by kernel_rfl)
                    with_reducible refine OpGives.pre_reads [(89, 4), (90, 5)] 209 ?_ ?_ ?_
                    · rfl
                    · kernel_rfl
                    simp only [List.map_cons, List.map_nil]
                    refine OpGives.val (v := .pointer (some (ad.add (j * 4)))) (w' := W) ?_ ⟨NewMem.refl _, rfl⟩; go_simp
                  case s7 =>
                    intro g W hSW _ hd
                    refine OpGives.ne (by decide) ?_
                    try simp only [Nat.zero_add, Nat.reduceAdd] at hd ⊢
                    have h6 : g 6 = _ := hd 6 (by decide) (by kernel_rfl)
                    with_reducible refine OpGives.pre_reads [(91, 6)] 209 ?_ ?_ ?_
                    · rfl
                    · kernel_rfl
                    simp only [List.map_cons, List.map_nil]
                    refine OpGives.val (w' := W) ?_ ⟨NewMem.refl _, rfl⟩; go_simp
                  case s8 =>
                    intro g W hSW _ hd
                    refine OpGives.ne (by decide) ?_
                    try simp only [Nat.zero_add, Nat.reduceAdd] at hd ⊢
                    have h7 : g 7 = _ := hd 7 (by decide) (by kernel_rfl)
                    with_reducible refine OpGives.pre_reads [(92, 7)] 209 ?_ ?_ ?_
                    · rfl
                    · kernel_rfl
                    simp only [List.map_cons, List.map_nil]
                    have c1 := (FAR4.out W hSW).2.2.1; refine OpGives.val (w' := W) ?_ ⟨NewMem.refl _, rfl⟩; go_simp
                  case s9 =>
                    intro g W hSW _ hd
                    refine OpGives.ne (by decide) ?_
                    try simp only [Nat.zero_add, Nat.reduceAdd] at hd ⊢
                    have h8 : g 8 = _ := hd 8 (by decide) (by kernel_rfl)
                    with_reducible refine OpGives.pre_reads [(93, 8)] 209 ?_ ?_ ?_
                    · rfl
                    · kernel_rfl
                    simp only [List.map_cons, List.map_nil]
                    refine OpGives.call (f := 25) (args := #[.string vstr]) (w' := W) (by go_simp) ((sector_any vstr HAS.out W).mono fun e w' ⟨he, hn⟩ => ⟨_, he, hn, rfl⟩)
                  case s10 =>
                    intro g W hSW _ hd
                    refine OpGives.ne (by decide) ?_
                    try simp only [Nat.zero_add, Nat.reduceAdd] at hd ⊢
                    have h9 : g 9 = _ := hd 9 (by decide) (by kernel_rfl)
                    with_reducible refine OpGives.pre_reads [(94, 9)] 209 ?_ ?_ ?_
                    · rfl
                    · kernel_rfl
                    simp only [List.map_cons, List.map_nil]
                    refine OpGives.val (v := .slice (some ⟨W.heap.size, 0, none⟩) 1 1) (w' := W.alloc (.cells #[.string (str (sec vstr))] 9)) ?_ ⟨NewMem.alloc _ _, W.heap.size, rfl, heap_alloc_last W _, fun e => absurd ((FAR4.out W hSW).2.2.2 _ e) (by omega)⟩; go_simp
                  case s11 =>
                    intro g W hSW hAW hd
                    refine OpGives.eqd ?_
                    have hAW := hAW rfl
                    try simp only [Nat.zero_add, Nat.reduceAdd] at hd ⊢
                    have h3 : g 3 = _ := hd 3 (by decide) (by kernel_rfl)
                    have h10 := hd 10 (by decide) (by kernel_rfl)
                    change (newsG sv 9 [.string (str (sec vstr))]).p (g 10) W at h10
                    with_reducible refine OpGives.pre_reads [(88, 3), (95, 10)] 209 ?_ ?_ ?_
                    · rfl
                    · kernel_rfl
                    simp only [List.map_cons, List.map_nil]
                    obtain ⟨v, W', hr, hR, hp⟩ := append_one Try.underlying25 info_str rfl (by decide) (by decide) HRL.out rfl (by simp [Value.oneCell']) hSW hAW h10 25; rw [← h3] at hr; rw [← strCells_snoc] at hp; exact OpGives.val (v := v) (w' := W') (exec_append _ _ _ rfl hr) ⟨hR, trivial, hp⟩
                  case hS => exact fun a c h k => Mod.trans h k (fun _ e => .inl e)
                  case hA => exact fun a c h k => ownsRow_mod h (Mod.of_below (F := fun _ => False) k) (fun _ _ => id)
                  case hR => exact fun a c h => Mod.of_below h
                  case hpd => exact fun v a c ⟨x, cp, e, ho, hx⟩ k => ⟨x, cp, e, ownsRow_mod ho (Mod.of_below (F := fun _ => False) k) (fun _ _ => id), hx⟩
                  case h0 => exact ⟨Mod.drew (Mod.refl _ _), ownsRow_mod HOWN.out (Mod.drew (Mod.refl (fun _ => False) _)) (fun _ _ => id)⟩
                  case fin =>
                    intro v W hSW hf hpd
                    have h0 : v 0 = _ := hf 0 (Nat.lt_of_lt_of_eq (by decide : 0 < 12) rfl)
                    have h11 := hpd (Nat.lt_of_lt_of_eq (by decide : 11 < 12) rfl)
                    clear hf hpd
                    generalize hF : Ord.pre _ _ v _ = F
                    rw [Ord.pre_lit [some 85, some 86, some 87, some 88, some 89, some 90, some 91, some 92, some 93, some 94, some 95, some 96]
                      (by kernel_rfl)] at hF
                    simp only [Ord.puts, Nat.zero_add, Nat.reduceAdd] at hF
                    subst hF
                    rw [h0]
                    obtain ⟨x7, c7, e7, h7'⟩ := h11
                    have h11 : AppendedG 9 1 W4 sv rq.length (strCells (rq ++ [str (sec vstr)])) (v 11) W := ⟨x7, c7, e7, h7'⟩
                    have hdone := stays_more HS4.out HSV.out HRA.out hSW h11
                    rw [HRQ.out, rsOf_snoc L q (sec vstr) hq6] at hdone
                    have HD := Lib.hid hdone
                    rw [e7] at HD ⊢
                    have c1 := (FAR4.out W hSW).2.1
                    have f1 := frozen_of_row W (sb + 1) q _ _ (FAR4.out W hSW).1
                    clear hdone h11 h7' e7
                    refine any_one (i := 12) (by kernel_rfl) ?_
                    refine wpOp_value (v := .pointer (some ⟨sb + 1, q, none⟩)) (w' := W) rfl rfl (by go_simp; exact fun hh => absurd hh (by omega)) ?_
                    refine any_one (i := 13) (by kernel_rfl) ?_
                    refine wpOp_skip (w' := W.setCell ⟨sb + 1, q, none⟩ (.slice (some ⟨x7, 0, none⟩) (rq.length + 1) c7)) rfl rfl (by go_simp) ?_
                    refine wpAny_done (by kernel_rfl) ?_ _
                    simp only [List.getElem_toArray, List.getElem_cons_succ, List.getElem_cons_zero]
                    go_frame
                    clear c1 f1
                    generalize W.setCell ⟨sb + 1, q, none⟩ (.slice (some ⟨x7, 0, none⟩) (rq.length + 1) c7) = W5 at *
                    go_wp2_with fail
                    go_roundw
                    case rel => exact ⟨j + 1, L ++ [(q, sec vstr)], by omega, by go_num, by simp, by simp; omega, _, td4, _, HTD4.out, HPD4.out, by rw [List.length_set]; exact HVL.out, HD.out⟩
                    case measure => simp [intOf]; omega
                · have hno := HPD.out.write_no (i := vi) (s := sec vstr) (by have := HS6.out; omega)
                  rw [hno] at hwr
                  refine hwr.mono ?_
                  rintro e W4 ⟨td4, rfl, htd4, hs4⟩
                  have HTD4 := Lib.hid htd4
                  have HS4 := Lib.hid hs4
                  clear htd4 hs4 hwr hr hno
                  go_wp2_with fail
                  go_roundw
                  case rel => exact ⟨j + 1, L, by omega, by go_num, rfl, by omega, D1, td4, vs, HTD4.out, HPD.out, HVL.out, HS4.out⟩
                  case measure => simp [intOf]; omega
              · obtain rfl : j = len2 := by omega
                obtain ⟨D1, td, vs, htd, hpd, hvl, hsep⟩ := hst
                have hll := hpd.loose
                have hre : Stays2 w b (sb + 1) sb S L wr := ⟨D1, td, vs, htd, hpd, hvl, hsep⟩
                have HTD := Lib.hid htd
                have HSEP := Lib.hid hsep
                have HLL2 := Lib.hid hll
                have HRE := Lib.hid hre
                clear htd hpd hvl hsep hll hre
                go_wp2_with fail
                refine (loose_sep HSEP.out HTD.out).mono ?_
                rintro e W3 ⟨rfl, rfl⟩
                rw [HLL2.out]
                go_wp2_with fail
                go_loopw [14] (fun i wr => ∃ k : Nat, k ≤ 6 ∧ i = .int .i64 (k : Int) ∧ Stays2 w b (sb + 1) sb S L wr) (fun i _ => 6 - (intOf i).toNat)
                case atStart => exact ⟨0, by omega, rfl, HRE.out⟩
                case round =>
                  obtain ⟨k, hk, rfl, hst⟩ := hrel
                  by_cases hlt : k < 6
                  · obtain ⟨D1, td, vs, htd, hpd, hvl, hsep⟩ := hst
                    have htx := hpd.text (i := k) (by have := HS6.out; omega)
                    have hcell : (S.map str)[k]? = some (str (S.getD k [])) := by
                      rw [List.getElem?_map, List.getElem?_eq_getElem (by have := HS6.out; omega), List.getD_eq_getElem?_getD, List.getElem?_eq_getElem (by have := HS6.out; omega)]; rfl
                    have HTD := Lib.hid htd
                    have HPD := Lib.hid hpd
                    have HVL := Lib.hid hvl
                    have HSEP := Lib.hid hsep
                    have HTX := Lib.hid htx
                    have HCELL := Lib.hid hcell
                    clear htd hpd hvl hsep htx hcell
                    go_wp2_with fail
                    refine' wp_region_factsT (S := (fun W => Sep w.heap.size w W (staysL td (sb + 1) sb vs (S.map str) (rsOf L)))) (R := (fun _ W => Sep w.heap.size w W (staysL td (sb + 1) sb vs (S.map str) (rsOf L)))) [eqF _ _, eqF _ _, eqF _ (.string (str (S.getD k []))), eqF _ _, eqF _ (.pointer (some ⟨sb, k, none⟩)), eqF _ (.string (str (S.getD k []))), eqF _ (.bool false)] (by kernel_rfl) (by kernel_rfl) ?hS ?h0 (steps_cons ?s0 (steps_cons ?s1 (steps_cons ?s2 (steps_cons ?s3 (steps_cons ?s4 (steps_cons ?s5 (steps_cons ?s6 (steps_nil)))))))) ?fin
                    case s0 =>
                      intro g W hSW hd
                      try simp only [Nat.zero_add, Nat.reduceAdd] at hd ⊢
                      with_reducible refine OpGives.pre_reads [] 209 ?_ ?_ ?_
                      · rfl
                      · kernel_rfl
                      simp only [List.map_cons, List.map_nil]
                      refine OpGives.val (w' := W) ?_ ⟨hSW, rfl⟩
                      go_simp
                      try with_reducible rfl
                    case s1 =>
                      intro g W hSW hd
                      try simp only [Nat.zero_add, Nat.reduceAdd] at hd ⊢
                      with_reducible refine OpGives.pre_reads [] 209 ?_ ?_ ?_
                      · rfl
                      · kernel_rfl
                      simp only [List.map_cons, List.map_nil]
                      refine OpGives.val (w' := W) ?_ ⟨hSW, rfl⟩
                      go_simp
                      try with_reducible rfl
                    case s2 =>
                      intro g W hSW hd
                      try simp only [Nat.zero_add, Nat.reduceAdd] at hd ⊢
                      have h0 : g 0 = _ := hd 0 (by decide) (by kernel_rfl)
                      have h1 : g 1 = _ := hd 1 (by decide) (by kernel_rfl)
                      with_reducible refine OpGives.pre_reads [(106, 0), (107, 1)] 209 ?_ ?_ ?_
                      · rfl
                      · kernel_rfl
                      simp only [List.map_cons, List.map_nil]
                      refine OpGives.call (f := 34) (args := #[.pointer (some ⟨b, 0, none⟩), .int .i64 (k : Int)]) (w' := W) (by go_simp) ((sure_sep hSW HTD.out (k : Int)).mono fun e w' ⟨he, hn⟩ => ⟨_, he, hn, congrArg (fun l : List UInt8 => Value.string ⟨l.toArray⟩) HTX.out⟩)
                    case s3 =>
                      intro g W hSW hd
                      try simp only [Nat.zero_add, Nat.reduceAdd] at hd ⊢
                      with_reducible refine OpGives.pre_reads [] 209 ?_ ?_ ?_
                      · rfl
                      · kernel_rfl
                      simp only [List.map_cons, List.map_nil]
                      refine OpGives.val (w' := W) ?_ ⟨hSW, rfl⟩
                      go_simp
                      try with_reducible rfl
                    case s4 =>
                      intro g W hSW hd
                      try simp only [Nat.zero_add, Nat.reduceAdd] at hd ⊢
                      have h3 : g 3 = _ := hd 3 (by decide) (by kernel_rfl)
                      with_reducible refine OpGives.pre_reads [(109, 3)] 209 ?_ ?_ ?_
                      · rfl
                      · kernel_rfl
                      simp only [List.map_cons, List.map_nil]
                      refine OpGives.val (v := .pointer (some ⟨sb, k, none⟩)) (w' := W) ?_ ⟨hSW, rfl⟩; go_simp
                    case s5 =>
                      intro g W hSW hd
                      try simp only [Nat.zero_add, Nat.reduceAdd] at hd ⊢
                      have h4 : g 4 = _ := hd 4 (by decide) (by kernel_rfl)
                      with_reducible refine OpGives.pre_reads [(110, 4)] 209 ?_ ?_ ?_
                      · rfl
                      · kernel_rfl
                      simp only [List.map_cons, List.map_nil]
                      have c1 := stays_text hSW HCELL.out; refine OpGives.val (w' := W) ?_ ⟨hSW, rfl⟩; go_simp
                    case s6 =>
                      intro g W hSW hd
                      try simp only [Nat.zero_add, Nat.reduceAdd] at hd ⊢
                      have h2 : g 2 = _ := hd 2 (by decide) (by kernel_rfl)
                      have h5 : g 5 = _ := hd 5 (by decide) (by kernel_rfl)
                      with_reducible refine OpGives.pre_reads [(108, 2), (111, 5)] 209 ?_ ?_ ?_
                      · rfl
                      · kernel_rfl
                      simp only [List.map_cons, List.map_nil]
                      refine OpGives.val (v := .bool false) (w' := W) ?_ ⟨hSW, rfl⟩; go_simp
                    case hS => exact fun _ _ _ h => h
                    case h0 => exact HSEP.out.drew
                    case fin =>
                      intro v W hSW hf
                      have h6 : v 6 = _ := hf 6 (Nat.lt_of_lt_of_eq (by decide : 6 < 7) rfl)
                      clear hf
                      generalize hF : Ord.pre _ _ v _ = F
                      rw [Ord.pre_lit [some 106, some 107, some 108, some 109, some 110, some 111, some 112]
                        (by kernel_rfl)] at hF
                      simp only [Ord.puts, Nat.zero_add, Nat.reduceAdd] at hF
                      subst hF
                      rw [h6]
                      clear h6
                      have HW := Lib.hid hSW
                      clear hSW
                      refine wpAny_done (by kernel_rfl) ?_ _
                      try simp only [List.getElem_toArray, List.getElem_cons_succ, List.getElem_cons_zero]
                      go_frame
                      go_wp2_with fail
                      go_roundw
                      case rel => exact ⟨k + 1, by omega, by go_num, D1, td, vs, HTD.out, HPD.out, HVL.out, HW.out⟩
                      case measure => simp [intOf]; omega
                  · obtain ⟨D1, td, vs, htd, hpd, hvl, hsep⟩ := hst
                    have HTD := Lib.hid htd
                    have HPD := Lib.hid hpd
                    have HVL := Lib.hid hvl
                    have HSEP := Lib.hid hsep
                    clear htd hpd hvl hsep
                    go_wp2_with fail
                    refine (copy_sep HSEP.out HTD.out (by rw [HPD.out.loose]; omega)).mono ?_
                    rintro e W3 ⟨v, rfl, b2, t2, rfl, ht2, hs2⟩
                    have HT2 := Lib.hid ht2
                    have HS2 := Lib.hid hs2
                    clear ht2 hs2
                    go_wp2_with fail
                    have hset := HPD.out.settle
                    refine (settle_sep HS2.out HT2.out (by rw [HPD.out.loose]; omega)).mono ?_
                    rintro e W4 ⟨t3, rfl, ht3, hs3⟩
                    rw [hset.1]
                    have HT3 := Lib.hid ht3
                    have HS3 := Lib.hid hs3
                    clear ht3 hs3
                    go_wp2_with fail
                    refine (crash_sep HS3.out.swap HTD.out (by rw [HPD.out.loose]; omega) ka kn kc zs (IntsAt.later HI.out HKO.out HS3.out) (fun h0 ad e x => absurd ((HS3.out.swap.all td (by simp)).2 _ x) (by have := HKO.out h0 ad e; omega))).mono ?_
                    rintro e W5 ⟨t4, rfl, ht4, hs4⟩
                    have HT4 := Lib.hid ht4
                    have HS4 := Lib.hid hs4
                    clear ht4 hs4
                    go_wp2_with fail
                    obtain ⟨S1, hS1⟩ : ∃ S1, S1 = keepN (fun k => zs.contains (k : Int)) L S L.length := ⟨_, rfl⟩
                    obtain ⟨S2, hS2⟩ : ∃ S2, S2 = keepN (fun _ => true) L S L.length := ⟨_, rfl⟩
                    have hp1 := PD.crash (D := D1) zs
                    rw [HPD.out.loose, HPD.out.sure, ← hS1] at hp1
                    have hp2 := hset.2
                    rw [← hS2] at hp2
                    have hl1 : S1.length = 6 := by rw [hS1, keepN_len]; exact HS6.out
                    have hl2 : S2.length = 6 := by rw [hS2, keepN_len]; exact HS6.out
                    have HP1 := Lib.hid hp1
                    have HP2 := Lib.hid hp2
                    have HL1 := Lib.hid hl1
                    have HL2 := Lib.hid hl2
                    have HE1 := Lib.hid hS1
                    have HE2 := Lib.hid hS2
                    clear hset hS1 hS2 hp1 hp2 hl1 hl2
                    go_loopw [16] (fun i wr => ∃ m : Nat, m ≤ 6 ∧ i = .int .i64 (m : Int) ∧ Sep w.heap.size w wr (t4 :: staysL t3 (sb + 1) sb vs (S.map str) (rsOf L))) (fun i _ => 6 - (intOf i).toNat)
                    case atStart => exact ⟨0, by omega, rfl, HS4.out⟩
                    case round =>
                      obtain ⟨m, hm, rfl, hsep⟩ := hrel
                      have HSP := Lib.hid hsep
                      clear hsep
                      by_cases hlt3 : m < 6
                      · obtain ⟨s1, hs1⟩ : ∃ x, x = str (S1.getD m []) := ⟨_, rfl⟩
                        obtain ⟨s2, hs2⟩ : ∃ x, x = str (S2.getD m []) := ⟨_, rfl⟩
                        obtain ⟨s0, hs0⟩ : ∃ x, x = str (S.getD m []) := ⟨_, rfl⟩
                        obtain ⟨ws, hws⟩ : ∃ x, x = (wroteOf L m).map str := ⟨_, rfl⟩
                        have hfd : foundN s1 s0 ws ws.length = true := by
                          rw [hs1, hs0, hws, List.length_map, HE1.out]; exact keep_found _ L S m (by have := HS6.out; omega)
                        have hla : s2 = ws.getLast?.getD s0 := by
                          rw [hs2, hs0, hws, HE2.out]; exact keep_last_str L S m (by have := HS6.out; omega)
                        have hcell : (S.map str)[m]? = some s0 := by
                          rw [hs0, List.getElem?_map, List.getElem?_eq_getElem (by have := HS6.out; omega), List.getD_eq_getElem?_getD, List.getElem?_eq_getElem (by have := HS6.out; omega)]; rfl
                        obtain ⟨sv, hsv⟩ : ∃ sv, vs[m]? = some sv := ⟨_, List.getElem?_eq_getElem (by have := HVL.out; omega)⟩
                        have hra := rsOf_at L m hlt3
                        rw [← hws] at hra
                        have hwn : ws.length ≤ 1000000 := by
                          have := wroteOf_len L m
                          rw [hws, List.length_map]; omega
                        have G1 := Lib.hid hs1
                        have G2 := Lib.hid hs2
                        have HFD := Lib.hid hfd
                        have HLA := Lib.hid hla
                        have HCELL := Lib.hid hcell
                        have HSV := Lib.hid hsv
                        have HRA := Lib.hid hra
                        have HWN := Lib.hid hwn
                        clear hs1 hs2 hs0 hws hfd hla hcell hsv hra hwn
                        go_wp2_with fail
                        refine (read_pd HSP.out HT4.out HP1.out (i := m) (by have := HL1.out; omega)).mono ?_
                        rw [← G1.out]
                        rintro e W6 ⟨rfl, hs6⟩
                        have HS6' := Lib.hid hs6
                        clear hs6
                        go_wp2_with fail
                        refine (read_pd HS6'.out.swap HT3.out HP2.out (i := m) (by have := HL2.out; omega)).mono ?_
                        rw [← G2.out]
                        rintro e W7 ⟨rfl, hs7⟩
                        have hs7' := hs7.swap
                        have HS7 := Lib.hid hs7'
                        have c0 : W7.cell? ⟨sb, m, none⟩ = some (.string s0) := stays_text hs7'.tail HCELL.out
                        have c1 : W7.cell? ⟨sb + 1, m, none⟩ = some sv := stays_slice hs7'.tail HSV.out
                        obtain ⟨hown, hbig⟩ := stays_row hs7'.tail HSV.out HRA.out
                        obtain ⟨g0, cp, rfl, hg⟩ := ownsRow_slice hown
                        have HOWN := Lib.hid hown
                        have HG := Lib.hid hg
                        clear hs7 hs7' hown hbig hg
                        go_wp2_with fail
                        go_loopw [21, 22] (fun f i wr => ∃ n : Nat, n ≤ ws.length ∧ i = .int .i64 (n : Int) ∧ f = .bool (foundN s1 s0 ws n) ∧ wr = W7) (fun _ i _ => ws.length - (intOf i).toNat)
                        case atStart => exact ⟨0, Nat.zero_le _, rfl, by simp [foundN], rfl⟩
                        case round =>
                          obtain ⟨n, hn, rfl, rfl, rfl⟩ := hrel
                          by_cases hln : n < ws.length
                          · obtain ⟨g, rfl⟩ := HG.out (by omega)
                            obtain ⟨x, hx⟩ : ∃ x, ws[n]? = some x := ⟨_, List.getElem?_eq_getElem hln⟩
                            have c2 := ownsRow_cell HOWN.out (j := n) (u := .string x) (by simp [strCells, hx])
                            have hsu := foundN_succ s1 s0 ws n x hx
                            have hnb : n < 1000000 := by have := HWN.out; omega
                            cases hfo : foundN s1 s0 ws n with
                            | true =>
                              rw [hfo, Bool.true_or] at hsu
                              have HSU := Lib.hid hsu
                              clear hsu hx hfo
                              go_wp2_with fail
                              go_roundw
                              case rel => exact ⟨n + 1, by omega, by go_num, by rw [HSU.out], trivial⟩
                              case measure => simp [intOf]; omega
                            | false =>
                              rw [hfo, Bool.false_or] at hsu
                              have HSU := Lib.hid hsu
                              clear hsu hx hfo
                              go_wp2_with fail
                              go_roundw
                              case rel => exact ⟨n + 1, by omega, by go_num, by rw [HSU.out], trivial⟩
                              case measure => simp [intOf]; omega
                          · have hft : foundN s1 s0 ws n = true := by
                              rw [show n = ws.length by omega]; exact HFD.out
                            rw [hft]
                            clear hft
                            by_cases h0 : 0 < ws.length
                            · obtain ⟨l, hl⟩ : ∃ l, ws.length = l + 1 := ⟨ws.length - 1, by omega⟩
                              obtain ⟨x, hx⟩ : ∃ x, ws[l]? = some x := ⟨_, List.getElem?_eq_getElem (by omega)⟩
                              obtain ⟨g, rfl⟩ := HG.out h0
                              have hx2 : s2 = x := by rw [HLA.out, List.getLast?_eq_getElem?, hl]; simp [hx]
                              have c2 := ownsRow_cell HOWN.out (j := l) (u := .string x) (by simp [strCells, hx])
                              subst hx2
                              have c3 := c1
                              rw [hl] at c3
                              have hlm : l < 1000000 := by have := HWN.out; omega
                              have hl0 : (l : Int) + 1 > 0 := by omega
                              have hnl : ¬ (n : Int) < (l : Int) + 1 := by omega
                              clear hx c1 hl h0
                              go_wp2_with fail
                              refine' wp_region_factsT (S := (fun W => W = wr.drew)) (R := (fun a b => a = b)) [eqF _ _, eqF _ (.pointer (some ⟨sb + 1, m, none⟩)), eqF _ (.slice (some ⟨g, 0, none⟩) (l + 1) cp), eqF _ _, eqF _ (.pointer (some ⟨sb + 1, m, none⟩)), eqF _ (.slice (some ⟨g, 0, none⟩) (l + 1) cp), eqF _ _, eqF _ (.int .i64 (l : Int)), eqF _ (.pointer (some ⟨g, l, none⟩)), eqF _ (.string s2)] (by kernel_rfl) (by kernel_rfl) ?hS ?h0 (steps_cons ?s0 (steps_cons ?s1 (steps_cons ?s2 (steps_cons ?s3 (steps_cons ?s4 (steps_cons ?s5 (steps_cons ?s6 (steps_cons ?s7 (steps_cons ?s8 (steps_cons ?s9 (steps_nil))))))))))) ?fin
                              case s0 =>
                                intro g W hSW hd
                                try simp only [Nat.zero_add, Nat.reduceAdd] at hd ⊢
                                with_reducible refine OpGives.pre_reads [] 209 ?_ ?_ ?_
                                · rfl
                                · kernel_rfl
                                simp only [List.map_cons, List.map_nil]
                                refine OpGives.val (w' := W) ?_ ⟨rfl, rfl⟩
                                go_simp
                                try with_reducible rfl
                              case s1 =>
                                intro g W hSW hd
                                try simp only [Nat.zero_add, Nat.reduceAdd] at hd ⊢
                                have h0 : g 0 = _ := hd 0 (by decide) (by kernel_rfl)
                                with_reducible refine OpGives.pre_reads [(176, 0)] 209 ?_ ?_ ?_
                                · rfl
                                · kernel_rfl
                                simp only [List.map_cons, List.map_nil]
                                subst hSW; refine OpGives.val (w' := wr.drew) ?_ ⟨rfl, rfl⟩; go_simp
                              case s2 =>
                                intro g W hSW hd
                                try simp only [Nat.zero_add, Nat.reduceAdd] at hd ⊢
                                have h1 : g 1 = _ := hd 1 (by decide) (by kernel_rfl)
                                with_reducible refine OpGives.pre_reads [(177, 1)] 209 ?_ ?_ ?_
                                · rfl
                                · kernel_rfl
                                simp only [List.map_cons, List.map_nil]
                                subst hSW; refine OpGives.val (w' := wr.drew) ?_ ⟨rfl, rfl⟩; go_simp
                              case s3 =>
                                intro g W hSW hd
                                try simp only [Nat.zero_add, Nat.reduceAdd] at hd ⊢
                                with_reducible refine OpGives.pre_reads [] 209 ?_ ?_ ?_
                                · rfl
                                · kernel_rfl
                                simp only [List.map_cons, List.map_nil]
                                refine OpGives.val (w' := W) ?_ ⟨rfl, rfl⟩
                                go_simp
                                try with_reducible rfl
                              case s4 =>
                                intro g W hSW hd
                                try simp only [Nat.zero_add, Nat.reduceAdd] at hd ⊢
                                have h3 : g 3 = _ := hd 3 (by decide) (by kernel_rfl)
                                with_reducible refine OpGives.pre_reads [(179, 3)] 209 ?_ ?_ ?_
                                · rfl
                                · kernel_rfl
                                simp only [List.map_cons, List.map_nil]
                                subst hSW; refine OpGives.val (w' := wr.drew) ?_ ⟨rfl, rfl⟩; go_simp
                              case s5 =>
                                intro g W hSW hd
                                try simp only [Nat.zero_add, Nat.reduceAdd] at hd ⊢
                                have h4 : g 4 = _ := hd 4 (by decide) (by kernel_rfl)
                                with_reducible refine OpGives.pre_reads [(180, 4)] 209 ?_ ?_ ?_
                                · rfl
                                · kernel_rfl
                                simp only [List.map_cons, List.map_nil]
                                subst hSW; refine OpGives.val (w' := wr.drew) ?_ ⟨rfl, rfl⟩; go_simp
                              case s6 =>
                                intro g W hSW hd
                                try simp only [Nat.zero_add, Nat.reduceAdd] at hd ⊢
                                have h5 : g 5 = _ := hd 5 (by decide) (by kernel_rfl)
                                with_reducible refine OpGives.pre_reads [(181, 5)] 209 ?_ ?_ ?_
                                · rfl
                                · kernel_rfl
                                simp only [List.map_cons, List.map_nil]
                                refine OpGives.val (w' := W) ?_ ⟨rfl, rfl⟩
                                go_simp
                                try with_reducible rfl
                              case s7 =>
                                intro g W hSW hd
                                try simp only [Nat.zero_add, Nat.reduceAdd] at hd ⊢
                                have h6 : g 6 = _ := hd 6 (by decide) (by kernel_rfl)
                                with_reducible refine OpGives.pre_reads [(182, 6)] 209 ?_ ?_ ?_
                                · rfl
                                · kernel_rfl
                                simp only [List.map_cons, List.map_nil]
                                subst hSW; refine OpGives.val (w' := wr.drew) ?_ ⟨rfl, rfl⟩; go_simp; rw [IntKind.wrap_i64]; omega
                              case s8 =>
                                intro g W hSW hd
                                try simp only [Nat.zero_add, Nat.reduceAdd] at hd ⊢
                                have h2 : g 2 = _ := hd 2 (by decide) (by kernel_rfl)
                                have h7 : g 7 = _ := hd 7 (by decide) (by kernel_rfl)
                                with_reducible refine OpGives.pre_reads [(178, 2), (183, 7)] 209 ?_ ?_ ?_
                                · rfl
                                · kernel_rfl
                                simp only [List.map_cons, List.map_nil]
                                subst hSW; refine OpGives.val (w' := wr.drew) ?_ ⟨rfl, rfl⟩; go_simp; exact fun hh => absurd hh (by omega)
                              case s9 =>
                                intro g W hSW hd
                                try simp only [Nat.zero_add, Nat.reduceAdd] at hd ⊢
                                have h8 : g 8 = _ := hd 8 (by decide) (by kernel_rfl)
                                with_reducible refine OpGives.pre_reads [(184, 8)] 209 ?_ ?_ ?_
                                · rfl
                                · kernel_rfl
                                simp only [List.map_cons, List.map_nil]
                                subst hSW; refine OpGives.val (w' := wr.drew) ?_ ⟨rfl, rfl⟩; go_simp
                              case hS => rintro a c h rfl; exact h
                              case h0 => rfl
                              case fin =>
                                intro v W hSW hf
                                have h9 : v 9 = _ := hf 9 (Nat.lt_of_lt_of_eq (by decide : 9 < 10) rfl)
                                clear hf
                                generalize hF : Ord.pre _ _ v _ = F
                                rw [Ord.pre_lit [some 176, some 177, some 178, some 179, some 180, some 181, some 182, some 183, some 184, some 185]
                                  (by kernel_rfl)] at hF
                                simp only [Ord.puts, Nat.zero_add, Nat.reduceAdd] at hF
                                subst hF
                                rw [h9]
                                clear h9
                                have hs8 := HS7.out.drew
                                rw [← hSW] at hs8
                                have HS8 := Lib.hid hs8
                                clear hs8 hSW
                                refine any_one (i := 10) (by kernel_rfl) ?_
                                refine wpOp_value (v := .string s2) (w' := W) rfl rfl (by go_simp) ?_
                                refine wpAny_done (by kernel_rfl) ?_ _
                                try simp only [List.getElem_toArray, List.getElem_cons_succ, List.getElem_cons_zero]
                                go_frame
                                go_wp2_with fail
                                refine (sure_pd HS8.out HT4.out HP1.out (i := m) (by have := HL1.out; omega)).mono ?_
                                rw [← G1.out]
                                rintro e W8 ⟨rfl, hs8⟩
                                have HS8' := Lib.hid hs8
                                clear hs8
                                go_wp2_with fail
                                go_roundw
                                case rel => exact ⟨m + 1, by omega, by go_num, HS8'.out⟩
                                case measure => simp [intOf]; omega
                            · have h00 : ws.length = 0 := by omega
                              have hx2 : s2 = s0 := by rw [HLA.out, List.getLast?_eq_getElem?, List.getElem?_eq_none (by omega)]; rfl
                              rw [h00] at c1
                              subst hx2
                              have hnl : ¬ (n : Int) < 0 := by omega
                              clear h0 h00
                              go_wp2_with fail
                              refine (sure_pd HS7.out HT4.out HP1.out (i := m) (by have := HL1.out; omega)).mono ?_
                              rw [← G1.out]
                              rintro e W8 ⟨rfl, hs8⟩
                              have HS8 := Lib.hid hs8
                              clear hs8
                              go_wp2_with fail
                              go_roundw
                              case rel => exact ⟨m + 1, by omega, by go_num, HS8.out⟩
                              case measure => simp [intOf]; omega
                      · go_wp2_with fail
                        refine (lives_any _).mono ?_
                        rintro e w' ⟨rfl, hn⟩
                        have hfin := HSP.out.grown hn
                        go_wp2_with fail
                        go_ret
                        exact ⟨rfl, hfin.below⟩
end Go.Proofs.Ytjnbdikhajnciaa.Drum
