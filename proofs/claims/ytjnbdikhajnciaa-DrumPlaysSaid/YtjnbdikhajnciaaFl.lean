/- The law's alike: has a drum all that the document says? -/
import Derived.Test.YtjnbdikhajnciaaFh
namespace Go.Proofs.Ytjnbdikhajnciaa.Drum
open Go.RowKit Go.Proofs.Ytjnbdikhajnciaa.Ord Go.Proofs.YtjnbdikhajnciaaW.PrintWords Go.Proofs.Ytjnbdikhajnciaa.Base
set_option linter.unusedVariables false
set_option linter.unusedSimpArgs false

set_option maxRecDepth 100000 in
set_option maxHeartbeats 16000000 in
theorem alike_at (B : Nat) (w W : World) (l : List Thing) (b rb : Nat) (D : DS) (R : RS) (td tr : Thing) (h : Sep B w W (td :: tr :: l)) (hd : IsDrum b D td) (hr : IsRef rb R tr) (hs : Sim D R) (hn : D.loose.length ≤ 1000000) :
    Calls Try.prog 40 #[.pointer (some ⟨b, 0, none⟩), .pointer (some ⟨rb, 0, none⟩)] W fun e W' => e = .returned (.bool true) ∧ Sep B w W' (td :: tr :: l) := by
  obtain ⟨n, hnn⟩ : ∃ n, n = R.S.length := ⟨_, rfl⟩
  have hn4 : n ≤ 4096 := by rw [hnn]; exact (hr.bounds h.swap).1
  have H := Lib.hid h
  have HD := Lib.hid hd
  have HR := Lib.hid hr
  have HS := Lib.hid hs
  have HN := Lib.hid hn
  have HNN := Lib.hid hnn
  clear h hd hr hs hn hnn
  go_enter Try.func40, Try.ntmps40
  go_wp2_with fail
  go_loopw [5] (fun t wr => ∃ i : Int, -1 ≤ i ∧ i ≤ 10 ∧ t = .int .i64 i ∧ Sep B w wr (td :: tr :: l)) (fun t _ => (20 - intOf t).toNat)
  case atStart => exact ⟨-1, by omega, by omega, rfl, H.out⟩
  case round =>
    obtain ⟨i, hi1, hi2, rfl, hsep⟩ := hrel
    obtain ⟨a, cp, a', cp', c0, c1, c3⟩ := IsRef.cells hsep.swap HR.out
    rw [← HNN.out] at c0
    have HSEP := Lib.hid hsep
    clear hsep
    by_cases hlt : i < (n : Int) + 1 ∧ i < 9
    · obtain ⟨hlt1, hlt2⟩ := hlt
      go_wp2_with fail
      refine (read_sep HSEP.out HD.out HN.out i).mono ?_
      rintro e W1 ⟨rfl, hs1⟩
      have HS1 := Lib.hid hs1
      clear hs1
      go_wp2_with fail
      refine (rread_sep HS1.out.swap HR.out i).mono ?_
      obtain ⟨hr1, hr2⟩ := sim_read HS.out i
      rw [← hr1, ← hr2]
      clear hr1 hr2
      rintro e W2 ⟨rfl, rfl⟩
      rw [show (⟨(D.read i).1.toArray⟩ : ByteArray) = str (D.read i).1 from rfl]
      go_wp2_with fail
      refine (sure_sep HS1.out HD.out i).mono ?_
      rintro e W3 ⟨rfl, hs3⟩
      have HS3 := Lib.hid hs3
      clear hs3
      go_wp2_with fail
      refine (rsure_sep HS3.out.swap HR.out i).mono ?_
      rw [← sim_sure HS.out i]
      rintro e W4 ⟨rfl, rfl⟩
      rw [show (⟨(D.sureText i).toArray⟩ : ByteArray) = str (D.sureText i) from rfl]
      go_wp2_with fail
      go_roundw
      case rel => exact ⟨i + 1, by omega, by omega, by go_num, HS3.out⟩
      case measure => simp [intOf]; omega
    · have hll := loose_sep (W := wr) HSEP.out HD.out
      have quiets : ∀ W', NewMem wr W' → Sep B w W' (td :: tr :: l) := fun W' hw => HSEP.out.grown hw
      have q1 : ∀ W', NewMem wr W' → Calls Try.prog 28 #[.pointer (some ⟨b, 0, none⟩)] W' fun e W'' => e = .returned (.int .i64 (R.W.length : Int)) ∧ W' = W'' := fun W' hw => by
        have := loose_sep (quiets W' hw) HD.out
        rwa [show R.W.length = D.loose.length by rw [HS.out.w, List.length_map]]
      have q2 : ∀ W', NewMem wr W' → Calls Try.prog 41 #[.pointer (some ⟨b, 0, none⟩)] W' fun e W'' => e = .returned (.int .i64 (n : Int)) ∧ W' = W'' := fun W' hw => by
        have := size_sep (quiets W' hw) HD.out
        rwa [HNN.out, show R.S.length = D.sure.length by rw [HS.out.s, List.length_map]]
      have q3 : ∀ W', NewMem wr W' → Calls Try.prog 27 #[.pointer (some ⟨b, 0, none⟩)] W' fun e W'' => e = .returned (.bool R.gone) ∧ W' = W'' := fun W' hw => by
        have := down_sep (quiets W' hw) HD.out
        rwa [HS.out.gone]
      have Q1 := Lib.hid q1
      have Q2 := Lib.hid q2
      have Q3 := Lib.hid q3
      clear hll quiets q1 q2 q3
      by_cases hlt1 : i < (n : Int) + 1
      · have hlt2 : ¬ i < 9 := fun h => hlt ⟨hlt1, h⟩
        clear hlt
        go_wp2_with fail
        refine wp_region_quiet_lit (by kernel_rfl) (by kernel_rfl) ?_
        repeat (quiet_step (fail))
        refine wpQuiet_step (fun K hK => ?_)
        go_simp
        apply Exists.intro
        refine ⟨fun _ => Calls.quiet_of_same ((Q1.out _ (below_drewN' (Below.refl _ _))).mono fun _ _ h => ⟨h.1, h.2.symm⟩), hK _ ?_⟩
        clear hK K
        repeat (quiet_step (fail))
        refine wpQuiet_step (fun K hK => ?_)
        go_simp
        apply Exists.intro
        refine ⟨fun _ => Calls.quiet_of_same ((Q2.out _ (below_drewN' (Below.refl _ _))).mono fun _ _ h => ⟨h.1, h.2.symm⟩), hK _ ?_⟩
        clear hK K
        repeat (quiet_step (fail))
        refine wpQuiet_step (fun K hK => ?_)
        go_simp
        apply Exists.intro
        refine ⟨fun _ => Calls.quiet_of_same ((Q3.out _ (below_drewN' (Below.refl _ _))).mono fun _ _ h => ⟨h.1, h.2.symm⟩), hK _ ?_⟩
        clear hK K
        repeat (quiet_step (fail))
        refine wpQuiet_nil ?_
        intro _ hw'
        obtain ⟨nq, hw''⟩ := hw'
        subst hw''
        go_wp2_with fail
        go_ret
        exact ⟨rfl, HSEP.out.drewN _⟩
      · clear hlt
        go_wp2_with fail
        refine wp_region_quiet_lit (by kernel_rfl) (by kernel_rfl) ?_
        repeat (quiet_step (fail))
        refine wpQuiet_step (fun K hK => ?_)
        go_simp
        apply Exists.intro
        refine ⟨fun _ => Calls.quiet_of_same ((Q1.out _ (below_drewN' (Below.refl _ _))).mono fun _ _ h => ⟨h.1, h.2.symm⟩), hK _ ?_⟩
        clear hK K
        repeat (quiet_step (fail))
        refine wpQuiet_step (fun K hK => ?_)
        go_simp
        apply Exists.intro
        refine ⟨fun _ => Calls.quiet_of_same ((Q2.out _ (below_drewN' (Below.refl _ _))).mono fun _ _ h => ⟨h.1, h.2.symm⟩), hK _ ?_⟩
        clear hK K
        repeat (quiet_step (fail))
        refine wpQuiet_step (fun K hK => ?_)
        go_simp
        apply Exists.intro
        refine ⟨fun _ => Calls.quiet_of_same ((Q3.out _ (below_drewN' (Below.refl _ _))).mono fun _ _ h => ⟨h.1, h.2.symm⟩), hK _ ?_⟩
        clear hK K
        repeat (quiet_step (fail))
        refine wpQuiet_nil ?_
        intro _ hw'
        obtain ⟨nq, hw''⟩ := hw'
        subst hw''
        go_wp2_with fail
        go_ret
        exact ⟨rfl, HSEP.out.drewN _⟩
end Go.Proofs.Ytjnbdikhajnciaa.Drum
