/- Texts of one proof, joined: Kg. -/
import Derived.Test.YteljihpheffjnaaDoorZKa
import Derived.Test.YteljihpheffjnaaDoorZGc
set_option linter.unusedSimpArgs false
set_option linter.unusedVariables false
/- The document's Settle and Append. -/
namespace Go.Proofs.YteljihpheffjnaaDoor.Tape
open Go.RowKit Go.Proofs.YteljihpheffjnaaDoor.Ord Go.Proofs.YteljihpheffjnaaDoorW.PrintWords Go.Proofs.YteljihpheffjnaaDoor.Base Go.Proofs.YteljihpheffjnaaDoor.Drum
set_option linter.unusedVariables false
set_option linter.unusedSimpArgs false
attribute [local go_sem] rdl_const rdl_func rdl_global rdl_nil rdl_cons
attribute [local irreducible] OpGives

section
variable {B : Nat} {w W : World} {l : List Thing} {tb b : Nat} {D : DS} {R : RS} {T : TS} {t : Thing}
/-- What a method of the document's tape leaves. -/
def RTDid (B : Nat) (w : World) (l : List Thing) (tb b : Nat) (r : Int × TS × DS) (e : Ending) (W' : World) : Prop := ∃ t R', e = .returned (.int .i64 r.1) ∧ IsRef b R' t ∧ Sim r.2.2 R' ∧ Sep B w W' (rtapeT tb b r.2.1 :: t :: l)
set_option maxHeartbeats 4000000 in
theorem rtsettle_tape (h : Sep B w W (rtapeT tb b T :: t :: l)) (ht : IsRef b R t) (hs : Sim D R) : Calls Tryd.prog 44 #[.pointer (some ⟨tb, 0, none⟩)] W (RTDid B w l tb b (T.settle D)) := by
  have hT := RTAt.of h
  have c0 := hT.c0
  have c4 := hT.c4
  unfold TS.settle
  by_cases he : T.err = 0
  · rw [if_neg (by omega)]
    rw [he] at c4
    have hc := rsettle_sep h.swap ht hs.fuse_le
    have hsim := sim_settle hs
    have HC := Lib.hid hc
    have HSIM := Lib.hid hsim
    clear hc h hT hsim
    go_enter Tryd.func44, Tryd.ntmps44
    go_wp2_with fail
    refine HC.out.mono ?_
    rintro e W1 ⟨rfl, t1, ht1, hs1⟩
    have hT1 := RTAt.of hs1.swap
    have f4 := hT1.free 4
    have k4 := hT1.c4
    have hs2 := rsep_setT hs1.swap (hT1.setE R.settle.1)
    have HS2 := Lib.hid hs2
    clear hs1 hs2 hT1
    go_wp2_with fail
    go_ret
    rw [HSIM.out.1]
    exact ⟨t1, _, rfl, ht1, HSIM.out.2, HS2.out⟩
  · rw [if_pos he]
    have hbd : (T.err == 0) = false := by simpa using he
    have H := Lib.hid h
    clear h hT
    go_enter Tryd.func44, Tryd.ntmps44
    go_wp2
    go_ret
    exact ⟨t, R, rfl, ht, hs, H.out⟩
/-- The drum before the write, or behind it. -/
def RPutS (B : Nat) (w : World) (l : List Thing) (b : Nat) (R R' : RS) (x : Bool) (W : World) : Prop := ∃ t, IsRef b (if x then R' else R) t ∧ Sep B w W (t :: l)
/-- While the parts are put. -/
def RAppR (T : TS) (D : DS) (s : List UInt8) (B : Nat) (w : World) (l : List Thing) (tb b N n : Nat) (i : Value) (wr : World) : Prop :=
  ∃ (k : Nat) (D1 : DS) (R1 : RS) (t1 : Thing), i = .int .i64 (k : Int) ∧ k ≤ n ∧ IsRef b R1 t1 ∧ Sim D1 R1 ∧ T.puts s (List.range' 0 n) D = T.puts s (List.range' k (n - k)) D1 ∧ D1.sure.length = N ∧ D1.loose.length ≤ D.loose.length + k ∧ Sep B w wr (rtapeT tb b T :: t1 :: l)
set_option maxRecDepth 100000 in
set_option maxHeartbeats 8000000 in
theorem rappend_tape (h : Sep B w W (rtapeT tb b T :: t :: l)) (ht : IsRef b R t) (hs0 : Sim D R) (hf : D.sure.length ≤ 4096) (hn : D.loose.length ≤ 500000) (s : ByteArray) (hs : s.size ≤ 1000000) (ha : T.at_ ≤ D.sure.length) (hl : T.life < 9223372036854775808) (hc : T.count ≤ 1000000) :
    Calls Tryd.prog 50 #[.pointer (some ⟨tb, 0, none⟩), .string s] W (RTDid B w l tb b (T.append D s.data.toList)) := by
  have hT := RTAt.of h
  have hsl : s.data.toList.length = s.size := (Lib.size_eq s).symm
  obtain ⟨sl, hsl'⟩ : ∃ sl, sl = s.data.toList := ⟨_, rfl⟩
  rw [← hsl'] at hsl ⊢
  have c4 := hT.c4
  unfold TS.append
  by_cases he : T.err = 0
  · rw [if_neg (by omega), hsl]
    rw [he] at c4
    have hneed := Lib.hid (rneed_any s.size (by omega) W)
    obtain ⟨n, hnd⟩ : ∃ n, n = needN s.size := ⟨_, rfl⟩
    have hn0 : 0 < n ∧ 51 * (n - 1) ≤ s.size ∧ n ≤ 20000 := by
      have h1 := needN_pos s.size
      have h2 := needN_le s.size
      refine ⟨by omega, ?_, by omega⟩
      rcases Nat.lt_or_ge 1 n with h3 | h3
      · have := needN_lt s.size (n - 2) (by omega)
        rw [show n - 2 + 1 = n - 1 by omega] at this; omega
      · rw [show n - 1 = 0 by omega]; omega
    obtain ⟨N, hN⟩ : ∃ N, N = D.sure.length := ⟨_, rfl⟩
    rw [← hnd] at hneed ⊢
    rw [← hN] at hf ha ⊢
    have hRN : R.S.length = N := by rw [hs0.s, List.length_map, hN]
    obtain ⟨ra, rcap, _, _, hcl, _, _⟩ := IsRef.cells h.swap ht
    rw [hRN] at hcl
    have q0 : ∀ m, (W.drewN m).cell? ⟨tb, 0, none⟩ = some (.pointer (some ⟨b, 0, none⟩)) := fun m => hT.c0
    have q3 : ∀ m, (W.drewN m).cell? ⟨tb, 3, none⟩ = some (.int .i64 (T.at_ : Int)) := fun m => hT.c3
    have q5 : ∀ m, (W.drewN m).cell? ⟨b, 0, none⟩ = some (.slice ra N rcap) := fun m => hcl
    have hwr : IntKind.i64.wrap ((N : Int) - (T.at_ : Int)) = ((N - T.at_ : Nat) : Int) := by rw [IntKind.wrap_i64]; omega
    have hwr2 : wrap64 ((N : Int) - (T.at_ : Int)) = ((N - T.at_ : Nat) : Int) := w_sub ha (by omega)
    have hstart : ∀ m, RAppR T D sl B w l tb b N n (.int .i64 0) (W.drewN m) := fun m => ⟨0, D, R, t, rfl, by omega, ht, hs0, rfl, hN.symm, by omega, h.drewN m⟩
    have HST := Lib.hid hstart
    have H := Lib.hid h
    have HND := Lib.hid hnd
    have HN0 := Lib.hid hn0
    have HNN := Lib.hid hN
    have HSL := Lib.hid hsl
    have HSL' := Lib.hid hsl'
    have HT := Lib.hid ht
    have HS0 := Lib.hid hs0
    clear hT h hstart hnd hn0 hN hsl hsl' ht hRN hcl hs0
    by_cases hroomy : N - T.at_ < n
    · rw [if_pos hroomy]
      have hd : decide (N - T.at_ < n) = true := decide_eq_true hroomy
      have hdi : decide (((N - T.at_ : Nat) : Int) < (n : Int)) = true := decide_eq_true (by omega)
      go_enter Tryd.func50, Tryd.ntmps50
      go_wp2_with fail
      refine hneed.out.mono ?_
      rintro e w' ⟨rfl, rfl⟩
      go_wp2_with fail
      go_quiet (fail)
      go_wp2_with fail
      go_ret
      exact ⟨t, R, rfl, HT.out, HS0.out, H.out.drewN nq⟩
    · rw [if_neg hroomy]
      obtain ⟨r, hr⟩ : ∃ r : Int × TS × DS, r = (if (T.puts sl (List.range' 0 n) D).1 = 0 then (0, ⟨T.count + 1, T.life, T.at_ + n, 0⟩, (T.puts sl (List.range' 0 n) D).2) else ((T.puts sl (List.range' 0 n) D).1, { T with err := (T.puts sl (List.range' 0 n) D).1 }, (T.puts sl (List.range' 0 n) D).2)) := ⟨_, rfl⟩
      rw [← hr]
      have HRR := Lib.hid hr
      clear hr
      have hd : decide (N - T.at_ < n) = false := decide_eq_false hroomy
      have hdi : decide (((N - T.at_ : Nat) : Int) < (n : Int)) = false := decide_eq_false (by omega)
      go_enter Tryd.func50, Tryd.ntmps50
      go_wp2_with fail
      refine hneed.out.mono ?_
      rintro e w' ⟨rfl, rfl⟩
      go_wp2_with fail
      go_quiet (fail)
      go_wp2_with fail
      have hst2 := HST.out nq
      have HST2 := Lib.hid hst2
      clear hst2 q0 q3 q5 hneed c4
      generalize w'.drewN nq = W0 at *
      go_loopw [6] (fun i wr => RAppR T D sl B w l tb b N n i wr) (fun i _ => n - (intOf i).toNat)
      case atStart => exact HST2.out
      case round =>
        obtain ⟨k, D1, R1, t1, rfl, hk, ht1, hsim, hputs, hlen, hlo, hsep⟩ := hrel
        have HSP := Lib.hid hsep
        have HT1 := Lib.hid ht1
        have HSI := Lib.hid hsim
        have HPU := Lib.hid hputs
        have HLN := Lib.hid hlen
        have HLO := Lib.hid hlo
        clear hsep ht1 hputs hlen hlo hsim
        by_cases hlt : k < n
        · have h1 : wrap64 (51 * (k : Int)) = ((51 * k : Nat) : Int) := by rw [show (51 : Int) * (k : Int) = ((51 * k : Nat) : Int) by omega]; exact w_id (by have := HN0.out; omega)
          have hdk : decide (k < n) = true := decide_eq_true hlt
          have hcut := piece_cut s k (by have := HN0.out; omega)
          have hcnd : 0 ≤ 51 * (k : Int) ∧ 51 * (k : Int) ≤ min (s.size : Int) (51 * (k : Int) + 51) := by have := HN0.out; omega
          go_wp2_with fail
          rw [show (min (s.size : Int) (51 * (k : Int) + 51)).toNat = min s.size (51 * k + 51) by omega, hcut]
          obtain ⟨X, hX⟩ : ∃ X, X = secOf T.life (T.count + 1) sl k := ⟨_, rfl⟩
          obtain ⟨y, hy⟩ : ∃ y, y = D1.write ((T.at_ + k : Nat) : Int) (layN X) := ⟨_, rfl⟩
          have hwl := write_len D1 ((T.at_ + k : Nat) : Int) (layN X)
          rw [← hy] at hwl
          have hsw := sim_write HSI.out ((T.at_ + k : Nat) : Int) ⟨(layN X).toArray⟩
          rw [show (⟨(layN X).toArray⟩ : ByteArray).data.toList = layN X from rfl, ← hy] at hsw
          have hXok : X.s.length ≤ 51 ∧ X.life < 9223372036854775808 ∧ X.record < 9223372036854775808 ∧ X.part < 9223372036854775808 := by
            rw [hX]
            exact ⟨secOf_len _ _ _ _, hl, by show T.count + 1 < _; omega, by show k < _; have := HN0.out; omega⟩
          have hRW : R1.W.length < 1000000 := by rw [HSI.out.w, List.length_map]; have := HLO.out; have := HN0.out; omega
          have htz : ∀ W L, RPutS B w (rtapeT tb b T :: l) b R1 (R1.write ((T.at_ + k : Nat) : Int) ⟨(layN X).toArray⟩).2 L W → RTAt W tb b T := fun W L ⟨t', _, hs'⟩ => (hs'.all (rtapeT tb b T) (by simp)).1
          have hagg : (.agg #[.int .i64 (T.life : Int), .int .i64 ((T.count + 1 : Nat) : Int), .int .i64 (k : Int), .bool (decide (k + 1 = needN sl.length)), .string ⟨(piece s.data.toList k).toArray⟩] : Value) = .agg (secCs (some X)) := by
            rw [hX, ← HSL'.out]; rfl
          have hw1 : IntKind.i64.wrap ((T.count : Int) + 1) = ((T.count + 1 : Nat) : Int) := by rw [IntKind.wrap_i64]; omega
          have hw2 : ((k : Int) == IntKind.i64.wrap ((n : Int) - 1)) = decide (k + 1 = needN sl.length) := by
            rw [IntKind.wrap_i64, HSL.out, ← HND.out]
            have := HN0.out
            by_cases hkn : k + 1 = n
            · rw [decide_eq_true hkn]; simp; omega
            · rw [decide_eq_false hkn]; simp; omega
          have hat : IntKind.i64.wrap ((T.at_ : Int) + (k : Int)) = ((T.at_ + k : Nat) : Int) := by have := HN0.out; rw [IntKind.wrap_i64]; omega
          have HX := Lib.hid hX
          have HY := Lib.hid hy
          have HWL := Lib.hid hwl
          have HSW := Lib.hid hsw
          have HXO := Lib.hid hXok
          have HRW := Lib.hid hRW
          have HTZ := Lib.hid htz
          have HAG := Lib.hid hagg
          have HAT := Lib.hid hat
          have HW1 := Lib.hid hw1
          have HW2 := Lib.hid hw2
          clear hX hy hwl hsw hXok hRW htz hagg hcnd hcut h1 hdk hat hw1 hw2
          refine' wp_region_factsM (S := (fun L W => RPutS B w (rtapeT tb b T :: l) b R1 (R1.write ((T.at_ + k : Nat) : Int) ⟨(layN X).toArray⟩).2 (L 27) W)) (fun _ _ _ => True) [eqM _, eqM _, eqM _, eqM (.pointer (some ⟨b, 0, none⟩)), eqM _, eqM _, eqM _, eqM (.int .i64 (T.at_ : Int)), eqM _, eqM (.int .i64 ((T.at_ + k : Nat) : Int)), eqM _, eqM _, eqM _, eqM (.int .i64 (T.life : Int)), eqM _, eqM _, eqM _, eqM (.int .i64 (T.count : Int)), eqM (.int .i64 ((T.count + 1 : Nat) : Int)), eqM _, eqM _, eqM _, eqM _, eqM (.bool (decide (k + 1 = needN sl.length))), eqM _, eqM (.agg (secCs (some X))), eqM (.string ⟨(layN X).toArray⟩), eqM (.int .i64 (R1.write ((T.at_ + k : Nat) : Int) ⟨(layN X).toArray⟩).1)] (by kernel_rfl) (by kernel_rfl) ?hst ?h0 (Ord.stepsM_cons ?s0 (Ord.stepsM_cons ?s1 (Ord.stepsM_cons ?s2 (Ord.stepsM_cons ?s3 (Ord.stepsM_cons ?s4 (Ord.stepsM_cons ?s5 (Ord.stepsM_cons ?s6 (Ord.stepsM_cons ?s7 (Ord.stepsM_cons ?s8 (Ord.stepsM_cons ?s9 (Ord.stepsM_cons ?s10 (Ord.stepsM_cons ?s11 (Ord.stepsM_cons ?s12 (Ord.stepsM_cons ?s13 (Ord.stepsM_cons ?s14 (Ord.stepsM_cons ?s15 (Ord.stepsM_cons ?s16 (Ord.stepsM_cons ?s17 (Ord.stepsM_cons ?s18 (Ord.stepsM_cons ?s19 (Ord.stepsM_cons ?s20 (Ord.stepsM_cons ?s21 (Ord.stepsM_cons ?s22 (Ord.stepsM_cons ?s23 (Ord.stepsM_cons ?s24 (Ord.stepsM_cons ?s25 (Ord.stepsM_cons ?s26 (Ord.stepsM_cons ?s27 (Ord.stepsM_nil))))))))))))))))))))))))))))) ?fin
          case s0 =>
            intro g W L hL hSW hd
            try simp only [Nat.zero_add, Nat.reduceAdd] at hd ⊢
            with_reducible refine OpGives.pre_reads [] 102 ?_ ?_ ?_
            · rfl
            · kernel_rfl
            simp only [List.map_cons, List.map_nil]
            refine OpGives.val (w' := W) ?_ ⟨trivial, rfl, hSW⟩
            go_simp
            try with_reducible rfl
          case s1 =>
            intro g W L hL hSW hd
            try simp only [Nat.zero_add, Nat.reduceAdd] at hd ⊢
            have h0 : g 0 = _ := hd 0 (by decide) (by kernel_rfl)
            with_reducible refine OpGives.pre_reads [(51, 0)] 102 ?_ ?_ ?_
            · rfl
            · kernel_rfl
            simp only [List.map_cons, List.map_nil]
            refine OpGives.val (w' := W) ?_ ⟨trivial, rfl, hSW⟩
            go_simp
            try with_reducible rfl
          case s2 =>
            intro g W L hL hSW hd
            try simp only [Nat.zero_add, Nat.reduceAdd] at hd ⊢
            have h1 : g 1 = _ := hd 1 (by decide) (by kernel_rfl)
            with_reducible refine OpGives.pre_reads [(52, 1)] 102 ?_ ?_ ?_
            · rfl
            · kernel_rfl
            simp only [List.map_cons, List.map_nil]
            refine OpGives.val (w' := W) ?_ ⟨trivial, rfl, hSW⟩
            go_simp
            try with_reducible rfl
          case s3 =>
            intro g W L hL hSW hd
            try simp only [Nat.zero_add, Nat.reduceAdd] at hd ⊢
            have h2 : g 2 = _ := hd 2 (by decide) (by kernel_rfl)
            with_reducible refine OpGives.pre_reads [(53, 2)] 102 ?_ ?_ ?_
            · rfl
            · kernel_rfl
            simp only [List.map_cons, List.map_nil]
            have c0 := (HTZ.out W _ hSW).c0; refine OpGives.val (w' := W) ?_ ⟨trivial, rfl, hSW⟩; go_simp
          case s4 =>
            intro g W L hL hSW hd
            try simp only [Nat.zero_add, Nat.reduceAdd] at hd ⊢
            with_reducible refine OpGives.pre_reads [] 102 ?_ ?_ ?_
            · rfl
            · kernel_rfl
            simp only [List.map_cons, List.map_nil]
            refine OpGives.val (w' := W) ?_ ⟨trivial, rfl, hSW⟩
            go_simp
            try with_reducible rfl
          case s5 =>
            intro g W L hL hSW hd
            try simp only [Nat.zero_add, Nat.reduceAdd] at hd ⊢
            have h4 : g 4 = _ := hd 4 (by decide) (by kernel_rfl)
            with_reducible refine OpGives.pre_reads [(55, 4)] 102 ?_ ?_ ?_
            · rfl
            · kernel_rfl
            simp only [List.map_cons, List.map_nil]
            refine OpGives.val (w' := W) ?_ ⟨trivial, rfl, hSW⟩
            go_simp
            try with_reducible rfl
          case s6 =>
            intro g W L hL hSW hd
            try simp only [Nat.zero_add, Nat.reduceAdd] at hd ⊢
            have h5 : g 5 = _ := hd 5 (by decide) (by kernel_rfl)
            with_reducible refine OpGives.pre_reads [(56, 5)] 102 ?_ ?_ ?_
            · rfl
            · kernel_rfl
            simp only [List.map_cons, List.map_nil]
            refine OpGives.val (w' := W) ?_ ⟨trivial, rfl, hSW⟩
            go_simp
            try with_reducible rfl
          case s7 =>
            intro g W L hL hSW hd
            try simp only [Nat.zero_add, Nat.reduceAdd] at hd ⊢
            have h6 : g 6 = _ := hd 6 (by decide) (by kernel_rfl)
            with_reducible refine OpGives.pre_reads [(57, 6)] 102 ?_ ?_ ?_
            · rfl
            · kernel_rfl
            simp only [List.map_cons, List.map_nil]
            have c3 := (HTZ.out W _ hSW).c3; refine OpGives.val (w' := W) ?_ ⟨trivial, rfl, hSW⟩; go_simp
          case s8 =>
            intro g W L hL hSW hd
            try simp only [Nat.zero_add, Nat.reduceAdd] at hd ⊢
            with_reducible refine OpGives.pre_reads [] 102 ?_ ?_ ?_
            · rfl
            · kernel_rfl
            simp only [List.map_cons, List.map_nil]
            refine OpGives.val (w' := W) ?_ ⟨trivial, rfl, hSW⟩
            go_simp
            try with_reducible rfl
          case s9 =>
            intro g W L hL hSW hd
            try simp only [Nat.zero_add, Nat.reduceAdd] at hd ⊢
            have h7 : g 7 = _ := hd 7 (by decide) (by kernel_rfl)
            have h8 : g 8 = _ := hd 8 (by decide) (by kernel_rfl)
            with_reducible refine OpGives.pre_reads [(58, 7), (59, 8)] 102 ?_ ?_ ?_
            · rfl
            · kernel_rfl
            simp only [List.map_cons, List.map_nil]
            have hat := HAT.out; refine OpGives.val (w' := W) ?_ ⟨trivial, rfl, hSW⟩; go_simp
          case s10 =>
            intro g W L hL hSW hd
            try simp only [Nat.zero_add, Nat.reduceAdd] at hd ⊢
            with_reducible refine OpGives.pre_reads [] 102 ?_ ?_ ?_
            · rfl
            · kernel_rfl
            simp only [List.map_cons, List.map_nil]
            refine OpGives.val (w' := W) ?_ ⟨trivial, rfl, hSW⟩
            go_simp
            try with_reducible rfl
          case s11 =>
            intro g W L hL hSW hd
            try simp only [Nat.zero_add, Nat.reduceAdd] at hd ⊢
            have h10 : g 10 = _ := hd 10 (by decide) (by kernel_rfl)
            with_reducible refine OpGives.pre_reads [(61, 10)] 102 ?_ ?_ ?_
            · rfl
            · kernel_rfl
            simp only [List.map_cons, List.map_nil]
            refine OpGives.val (w' := W) ?_ ⟨trivial, rfl, hSW⟩
            go_simp
            try with_reducible rfl
          case s12 =>
            intro g W L hL hSW hd
            try simp only [Nat.zero_add, Nat.reduceAdd] at hd ⊢
            have h11 : g 11 = _ := hd 11 (by decide) (by kernel_rfl)
            with_reducible refine OpGives.pre_reads [(62, 11)] 102 ?_ ?_ ?_
            · rfl
            · kernel_rfl
            simp only [List.map_cons, List.map_nil]
            refine OpGives.val (w' := W) ?_ ⟨trivial, rfl, hSW⟩
            go_simp
            try with_reducible rfl
          case s13 =>
            intro g W L hL hSW hd
            try simp only [Nat.zero_add, Nat.reduceAdd] at hd ⊢
            have h12 : g 12 = _ := hd 12 (by decide) (by kernel_rfl)
            with_reducible refine OpGives.pre_reads [(63, 12)] 102 ?_ ?_ ?_
            · rfl
            · kernel_rfl
            simp only [List.map_cons, List.map_nil]
            have c2 := (HTZ.out W _ hSW).c2; refine OpGives.val (w' := W) ?_ ⟨trivial, rfl, hSW⟩; go_simp
          case s14 =>
            intro g W L hL hSW hd
            try simp only [Nat.zero_add, Nat.reduceAdd] at hd ⊢
            with_reducible refine OpGives.pre_reads [] 102 ?_ ?_ ?_
            · rfl
            · kernel_rfl
            simp only [List.map_cons, List.map_nil]
            refine OpGives.val (w' := W) ?_ ⟨trivial, rfl, hSW⟩
            go_simp
            try with_reducible rfl
          case s15 =>
            intro g W L hL hSW hd
            try simp only [Nat.zero_add, Nat.reduceAdd] at hd ⊢
            have h14 : g 14 = _ := hd 14 (by decide) (by kernel_rfl)
            with_reducible refine OpGives.pre_reads [(65, 14)] 102 ?_ ?_ ?_
            · rfl
            · kernel_rfl
            simp only [List.map_cons, List.map_nil]
            refine OpGives.val (w' := W) ?_ ⟨trivial, rfl, hSW⟩
            go_simp
            try with_reducible rfl
          case s16 =>
            intro g W L hL hSW hd
            try simp only [Nat.zero_add, Nat.reduceAdd] at hd ⊢
            have h15 : g 15 = _ := hd 15 (by decide) (by kernel_rfl)
            with_reducible refine OpGives.pre_reads [(66, 15)] 102 ?_ ?_ ?_
            · rfl
            · kernel_rfl
            simp only [List.map_cons, List.map_nil]
            refine OpGives.val (w' := W) ?_ ⟨trivial, rfl, hSW⟩
            go_simp
            try with_reducible rfl
          case s17 =>
            intro g W L hL hSW hd
            try simp only [Nat.zero_add, Nat.reduceAdd] at hd ⊢
            have h16 : g 16 = _ := hd 16 (by decide) (by kernel_rfl)
            with_reducible refine OpGives.pre_reads [(67, 16)] 102 ?_ ?_ ?_
            · rfl
            · kernel_rfl
            simp only [List.map_cons, List.map_nil]
            have c1 := (HTZ.out W _ hSW).c1; refine OpGives.val (w' := W) ?_ ⟨trivial, rfl, hSW⟩; go_simp
          case s18 =>
            intro g W L hL hSW hd
            try simp only [Nat.zero_add, Nat.reduceAdd] at hd ⊢
            have h17 : g 17 = _ := hd 17 (by decide) (by kernel_rfl)
            with_reducible refine OpGives.pre_reads [(68, 17)] 102 ?_ ?_ ?_
            · rfl
            · kernel_rfl
            simp only [List.map_cons, List.map_nil]
            have hw1 := HW1.out; refine OpGives.val (w' := W) ?_ ⟨trivial, rfl, hSW⟩; go_simp
          case s19 =>
            intro g W L hL hSW hd
            try simp only [Nat.zero_add, Nat.reduceAdd] at hd ⊢
            with_reducible refine OpGives.pre_reads [] 102 ?_ ?_ ?_
            · rfl
            · kernel_rfl
            simp only [List.map_cons, List.map_nil]
            refine OpGives.val (w' := W) ?_ ⟨trivial, rfl, hSW⟩
            go_simp
            try with_reducible rfl
          case s20 =>
            intro g W L hL hSW hd
            try simp only [Nat.zero_add, Nat.reduceAdd] at hd ⊢
            with_reducible refine OpGives.pre_reads [] 102 ?_ ?_ ?_
            · rfl
            · kernel_rfl
            simp only [List.map_cons, List.map_nil]
            refine OpGives.val (w' := W) ?_ ⟨trivial, rfl, hSW⟩
            go_simp
            try with_reducible rfl
          case s21 =>
            intro g W L hL hSW hd
            try simp only [Nat.zero_add, Nat.reduceAdd] at hd ⊢
            with_reducible refine OpGives.pre_reads [] 102 ?_ ?_ ?_
            · rfl
            · kernel_rfl
            simp only [List.map_cons, List.map_nil]
            refine OpGives.val (w' := W) ?_ ⟨trivial, rfl, hSW⟩
            go_simp
            try with_reducible rfl
          case s22 =>
            intro g W L hL hSW hd
            try simp only [Nat.zero_add, Nat.reduceAdd] at hd ⊢
            have h21 : g 21 = _ := hd 21 (by decide) (by kernel_rfl)
            with_reducible refine OpGives.pre_reads [(72, 21)] 102 ?_ ?_ ?_
            · rfl
            · kernel_rfl
            simp only [List.map_cons, List.map_nil]
            refine OpGives.val (w' := W) ?_ ⟨trivial, rfl, hSW⟩
            go_simp
            try with_reducible rfl
          case s23 =>
            intro g W L hL hSW hd
            try simp only [Nat.zero_add, Nat.reduceAdd] at hd ⊢
            have h20 : g 20 = _ := hd 20 (by decide) (by kernel_rfl)
            have h22 : g 22 = _ := hd 22 (by decide) (by kernel_rfl)
            with_reducible refine OpGives.pre_reads [(71, 20), (73, 22)] 102 ?_ ?_ ?_
            · rfl
            · kernel_rfl
            simp only [List.map_cons, List.map_nil]
            have hw2 := HW2.out; refine OpGives.val (w' := W) ?_ ⟨trivial, rfl, hSW⟩; go_simp
          case s24 =>
            intro g W L hL hSW hd
            try simp only [Nat.zero_add, Nat.reduceAdd] at hd ⊢
            with_reducible refine OpGives.pre_reads [] 102 ?_ ?_ ?_
            · rfl
            · kernel_rfl
            simp only [List.map_cons, List.map_nil]
            refine OpGives.val (w' := W) ?_ ⟨trivial, rfl, hSW⟩
            go_simp
            try with_reducible rfl
          case s25 =>
            intro g W L hL hSW hd
            try simp only [Nat.zero_add, Nat.reduceAdd] at hd ⊢
            have h13 : g 13 = _ := hd 13 (by decide) (by kernel_rfl)
            have h18 : g 18 = _ := hd 18 (by decide) (by kernel_rfl)
            have h19 : g 19 = _ := hd 19 (by decide) (by kernel_rfl)
            have h23 : g 23 = _ := hd 23 (by decide) (by kernel_rfl)
            have h24 : g 24 = _ := hd 24 (by decide) (by kernel_rfl)
            with_reducible refine OpGives.pre_reads [(64, 13), (69, 18), (70, 19), (74, 23), (75, 24)] 102 ?_ ?_ ?_
            · rfl
            · kernel_rfl
            simp only [List.map_cons, List.map_nil]
            rw [← HAG.out]; refine OpGives.val (w' := W) ?_ ⟨trivial, rfl, hSW⟩; go_simp
          case s26 =>
            intro g W L hL hSW hd
            try simp only [Nat.zero_add, Nat.reduceAdd] at hd ⊢
            have h25 : g 25 = _ := hd 25 (by decide) (by kernel_rfl)
            with_reducible refine OpGives.pre_reads [(76, 25)] 102 ?_ ?_ ?_
            · rfl
            · kernel_rfl
            simp only [List.map_cons, List.map_nil]
            refine OpGives.call (f := 67) (args := #[.agg (secCs (some X))]) (w' := W) (by go_simp) ((rlay_any X HXO.out.1 HXO.out.2.1 HXO.out.2.2.1 HXO.out.2.2.2 W).mono fun e w' ⟨he, hn⟩ => ⟨_, he, trivial, rfl, by obtain ⟨t', h1, h2⟩ := hSW; exact ⟨t', h1, h2.grown hn⟩⟩)
          case s27 =>
            intro g W L hL hSW hd
            try simp only [Nat.zero_add, Nat.reduceAdd] at hd ⊢
            have h3 : g 3 = _ := hd 3 (by decide) (by kernel_rfl)
            have h9 : g 9 = _ := hd 9 (by decide) (by kernel_rfl)
            have h26 : g 26 = _ := hd 26 (by decide) (by kernel_rfl)
            with_reducible refine OpGives.pre_reads [(54, 3), (60, 9), (77, 26)] 102 ?_ ?_ ?_
            · rfl
            · kernel_rfl
            simp only [List.map_cons, List.map_nil]
            obtain ⟨t', h1, h2⟩ := hSW; rw [hL] at h1; have h1 : IsRef b R1 t' := h1; have hwv := rwrite_sep h2 h1 ((T.at_ + k : Nat) : Int) ⟨(layN X).toArray⟩ HSI.out.fuse_le HRW.out (by rw [Lib.size_eq]; show (layN X).length ≤ _; rw [layN_len HXO.out.1]; decide); refine OpGives.call (f := 49) (args := #[.pointer (some ⟨b, 0, none⟩), .int .i64 ((T.at_ + k : Nat) : Int), .string ⟨(layN X).toArray⟩]) (w' := W) (by go_simp) (hwv.mono fun e w' ⟨he, t2, hd, hs⟩ => ⟨_, he, trivial, rfl, t2, by simpa using hd, hs⟩)
          case hst => exact fun i j v w w' _ h _ => st_of (R := fun _ _ => True) (by repeat' first | exact trivial | with_reducible refine StL.eq ?_ | with_reducible refine StL.any ?_) i v w w' h trivial
          case h0 => exact ⟨t1, HT1.out, HSP.out.swap.grown (below_drewN' (n := 1) (Below.refl _ _))⟩
          case fin =>
            intro v W3 L hL hSW hf
            have h27 : v 27 = _ := hf 27 (Nat.lt_of_lt_of_eq (by decide : 27 < 28) rfl)
            have hl27 := hL 27 (Nat.lt_of_lt_of_eq (by decide : 27 < 28) rfl)
            have hPS : RPutS B w (rtapeT tb b T :: l) b R1 (R1.write ((T.at_ + k : Nat) : Int) ⟨(layN X).toArray⟩).2 (L 27) W3 := hSW
            rw [hl27] at hPS
            have HPS := Lib.hid hPS
            clear hf hL hl27 hSW hPS
            generalize hF : Ord.pre _ _ v _ = F
            rw [Ord.pre_lit [some 51, some 52, some 53, some 54, some 55, some 56, some 57, some 58, some 59, some 60, some 61, some 62, some 63, some 64, some 65, some 66, some 67, some 68, some 69, some 70, some 71, some 72, some 73, some 74, some 75, some 76, some 77, some 78]
              (by kernel_rfl)] at hF
            simp only [Ord.puts, Nat.zero_add, Nat.reduceAdd] at hF
            subst hF
            rw [h27, ← HSW.out.1]
            clear h27
            obtain ⟨t2, ht2, hs2⟩ := HPS.out
            have ht2' : IsRef b (R1.write ((T.at_ + k : Nat) : Int) ⟨(layN X).toArray⟩).2 t2 := ht2
            have HT2 := Lib.hid ht2'
            have HS2 := Lib.hid hs2.swap
            clear ht2 ht2' hs2
            refine any_one (i := 28) (by kernel_rfl) (wpOp_value (v := .int .i64 y.1) (w' := W3) rfl rfl (by go_simp) ?_)
            refine wpAny_done (by kernel_rfl) ?_ _
            try simp only [List.getElem_toArray, List.getElem_cons_succ, List.getElem_cons_zero]
            go_frame
            have hpm := puts_more T sl k n hlt D1
            rw [← HX.out, ← HY.out] at hpm
            have HPM := Lib.hid hpm
            clear hpm
            by_cases hy0 : y.1 = 0
            · have HPM0 := Lib.hid (HPM.out.trans (if_pos hy0))
              rw [hy0]
              go_wp2_with fail
              go_roundw
              case rel =>
                refine ⟨k + 1, y.2, _, t2, by go_num, hlt, HT2.out, HSW.out.2, HPU.out.trans HPM0.out, HWL.out.1.trans HLN.out, by have := HWL.out; have := HLO.out; omega, HS2.out⟩
              case measure =>
                have hm : n - (k + 1) < n - k := by omega
                have ht : ((k : Int) + 1).toNat = k + 1 := by omega
                simp only [intOf, Int.toNat_natCast, ht]
                exact hm
            · have HPM0 := Lib.hid (HPM.out.trans (if_neg hy0))
              have hyb : (y.1 == 0) = false := by simpa using hy0
              have hTT : RTAt W3 tb b T := RTAt.of HS2.out
              have f4 := hTT.free 4
              have k4 := hTT.c4
              have HS3 := Lib.hid (rsep_setT HS2.out (hTT.setE y.1))
              clear hTT
              go_wp2_with fail
              go_ret
              have hall : T.puts sl (List.range' 0 n) D = y := HPU.out.trans HPM0.out
              have hrr := HRR.out
              rw [hall, if_neg hy0] at hrr
              rw [hrr]
              exact ⟨t2, _, rfl, HT2.out, HSW.out.2, HS3.out⟩
        · obtain rfl : k = n := by omega
          have hdk : decide (k < k) = false := decide_eq_false (by omega)
          have hall : T.puts sl (List.range' 0 k) D = (0, D1) := by rw [HPU.out, Nat.sub_self]; rfl
          have hrr := HRR.out
          rw [hall, if_pos rfl] at hrr
          have HR2 := Lib.hid hrr
          have hTT := RTAt.of HSP.out
          have f3 := hTT.free 3
          have f1 := hTT.free 1
          have c1 := hTT.c1
          have c3 := hTT.c3
          have hw1 : wrap64 ((T.count : Int) + 1) = ((T.count + 1 : Nat) : Int) := w_one (by omega)
          have hw2 : wrap64 ((T.at_ : Int) + (k : Int)) = ((T.at_ + k : Nat) : Int) := w_add (by have := HN0.out; omega)
          have hs2 := rsep_setT HSP.out (hTT.setA (T.at_ + k))
          have hs3 := rsep_setT hs2 ((RTAt.of hs2).setC (T.count + 1))
          have HS3 := Lib.hid hs3
          clear hall hrr hTT hs2 hs3
          go_wp2_with fail
          go_ret
          rw [HR2.out, show (T.at_ : Int) + (k : Int) = ((T.at_ + k : Nat) : Int) by omega, show (T.count : Int) + 1 = ((T.count + 1 : Nat) : Int) by omega]
          have hTe : ({ ({ T with at_ := T.at_ + k } : TS) with count := T.count + 1 } : TS) = ⟨T.count + 1, T.life, T.at_ + k, 0⟩ := by cases T; simp only at he; subst he; rfl
          rw [hTe] at HS3
          exact ⟨t1, _, rfl, HT1.out, HSI.out, HS3.out⟩
  · rw [if_pos he]
    have hbd : (T.err == 0) = false := by simpa using he
    have H := Lib.hid h
    clear h hT
    go_enter Tryd.func50, Tryd.ntmps50
    go_wp2_with fail
    go_ret
    exact ⟨t, R, rfl, ht, hs0, H.out⟩
end
end Go.Proofs.YteljihpheffjnaaDoor.Tape
