/- Texts of one proof, joined: Km, Ko, Kn, Kp, Kq. -/
import Derived.Test.YteljihpheffjnaaDoorZKc
import Derived.Test.YteljihpheffjnaaDoorZGc
import Derived.Test.YteljihpheffjnaaDoorZKa
set_option linter.unusedSimpArgs false
set_option linter.unusedVariables false
/- The law's step: a sector is spoilt; Append. -/
namespace Go.Proofs.YteljihpheffjnaaDoor.Tape
open Go.RowKit Go.Proofs.YteljihpheffjnaaDoor.Ord Go.Proofs.YteljihpheffjnaaDoorW.PrintWords Go.Proofs.YteljihpheffjnaaDoor.Base Go.Proofs.YteljihpheffjnaaDoor.Drum
set_option linter.unusedVariables false
set_option linter.unusedSimpArgs false
attribute [local go_sem] rdl_const rdl_func rdl_global rdl_nil rdl_cons
attribute [local irreducible] OpGives

theorem spB_size (was s : ByteArray) : (spB was s).size ≤ was.size + s.size := by
  unfold spB
  rw [ByteArray.size_append, ByteArray.size_extract, ByteArray.size_extract]
  omega
theorem read_wide {D : DS} {i : Int} (h : DW D) : (D.read i).1.length ≤ 64 := by
  unfold DS.read
  split
  · exact Nat.zero_le _
  · split
    · rename_i hi
      have := h.1 i.toNat (by omega)
      show (D.shows i.toNat).length ≤ 64
      omega
    · exact Nat.zero_le _
set_option maxRecDepth 100000 in
set_option maxHeartbeats 16000000 in
theorem step5 {B : Nat} {w W : World} {wb b rb k : Nat} {D : DS} {R : RS} (hP : PW B w wb b rb D R k W) (hs : Sim D R) (hg : Gd D k) (hk : k ≤ 100) (i : Int) (s : ByteArray) (hsz : s.size ≤ 600) (ka : Option Addr) (kn kc : Nat) :
    Calls Tryd.prog 23 #[.pointer (some ⟨wb, 0, none⟩), .agg (acells 5 i s ka kn kc)] W (Went B w wb b rb D.sure.length k) := by
  obtain ⟨td, tr, tv, xv, tl, htd, htr, htp, hsep⟩ := hP
  have hs1 := act_new hsep 5 i s ka kn kc
  obtain ⟨bk, hbk⟩ : ∃ bk, bk = W.heap.size := ⟨_, rfl⟩
  obtain ⟨W1, hW1⟩ : ∃ W1, W1 = W.alloc (.cells #[.int .i64 5, .int .i64 i, .string s, .slice ka kn kc] 55) := ⟨_, rfl⟩
  rw [← hW1, ← hbk] at hs1
  obtain ⟨q0, q1, _, _⟩ := act_cells (sep_head hs1)
  obtain ⟨c0, c1, c2, c3⟩ := WlAt.cells (hs1.all (worldT wb b rb tv xv) (by simp)).1
  have hrd : ∀ W', NewMem W1 W' → Calls Tryd.prog 47 #[.pointer (some ⟨rb, 0, none⟩), .int .i64 i] W' fun e W'' => e = .returned (.tuple #[.string (R.read i).1, .int .i64 (R.read i).2]) ∧ W' = W'' := fun W' hn =>
    rread_sep ((hs1.grown hn).perm (List.perm_middle (l₁ := [_, _, _]))) htr i
  obtain ⟨p, hp⟩ : ∃ p, p = R.read i := ⟨_, rfl⟩
  have hwas : p.1.size ≤ 64 := by
    rw [hp, ← (sim_read hs i).1]
    show (D.read i).1.toArray.size ≤ 64
    rw [List.size_toArray]; exact read_wide hg.wide
  rw [← hp] at hrd
  obtain ⟨was, er⟩ := p
  simp only at hwas hrd
  have hwl := write_len D i (spB was s).data.toList
  have hsp : (spB was s).size ≤ 10000 := by have := spB_size was s; omega
  have HG := Lib.hid hg
  have HBK := Lib.hid hbk
  have HW1 := Lib.hid hW1
  have HRD := Lib.hid hrd
  have HQ := Lib.hid (duo_start (k := k) (D' := (D.write i (spB was s).data.toList).2) hs1 htd htr hs)
  have HAR := Lib.hid hwl
  have HTP := Lib.hid htp
  have HSP := Lib.hid hsp
  have HK := Lib.hid hk
  have HWAS := Lib.hid hwas
  have HSZ := Lib.hid hsz
  have HS := Lib.hid hs
  have HS1 := Lib.hid hs1
  have HTD := Lib.hid htd
  have HTR := Lib.hid htr
  unfold acells
  clear hs1 hsep hg hbk hW1 hs htd htr htp hp hrd hwl hsp hwas hk hsz
  by_cases he : er = 0
  · subst he
    go_enter Tryd.func23, Tryd.ntmps23
    go_wp2_with fail
    rw [← HBK.out, ← HW1.out]
    try go_wp2_with fail
    refine wp_region_quiet_lit (by kernel_rfl) (by kernel_rfl) ?_
    repeat (quiet_step (fail))
    refine wpQuiet_step (fun K hK => ?_)
    go_simp
    apply Exists.intro
    refine ⟨fun _ => Calls.quiet_of_same ((HRD.out _ (below_drewN' (Below.refl _ _))).mono fun _ _ h => ⟨h.1, h.2.symm⟩), hK _ ?_⟩
    clear hK K
    repeat (quiet_step (fail))
    refine wpQuiet_nil ?_
    intro _ hw'
    obtain ⟨nq, hw''⟩ := hw'
    subst hw''
    go_wp2_with fail
    refine' wp_region_factsL (S := (fun L W' => Duo B w (worldT wb b rb tv xv :: (tl ++ [actT bk 5 i s ka kn kc])) b rb D (D.write i (spB was s).data.toList).2 (L 10) (L 21) W')) [eqF _ _, eqF _ _, eqF _ _, eqF _ (.pointer (some ⟨b, 0, none⟩)), eqF _ _, eqF _ (.int .i64 i), eqF _ (.string was), eqF _ _, eqF _ (.string s), eqF _ (.string (spB was s)), eqF _ (.int .i64 (D.write i (spB was s).data.toList).1), eqF _ _, eqF _ _, eqF _ _, eqF _ (.pointer (some ⟨rb, 0, none⟩)), eqF _ _, eqF _ (.int .i64 i), eqF _ (.string was), eqF _ _, eqF _ (.string s), eqF _ (.string (spB was s)), eqF _ (.int .i64 (D.write i (spB was s).data.toList).1), eqF _ (.bool true)] (by kernel_rfl) (by kernel_rfl) ?h0 (Ord.stepsL_cons ?s0 (Ord.stepsL_cons ?s1 (Ord.stepsL_cons ?s2 (Ord.stepsL_cons ?s3 (Ord.stepsL_cons ?s4 (Ord.stepsL_cons ?s5 (Ord.stepsL_cons ?s6 (Ord.stepsL_cons ?s7 (Ord.stepsL_cons ?s8 (Ord.stepsL_cons ?s9 (Ord.stepsL_cons ?s10 (Ord.stepsL_cons ?s11 (Ord.stepsL_cons ?s12 (Ord.stepsL_cons ?s13 (Ord.stepsL_cons ?s14 (Ord.stepsL_cons ?s15 (Ord.stepsL_cons ?s16 (Ord.stepsL_cons ?s17 (Ord.stepsL_cons ?s18 (Ord.stepsL_cons ?s19 (Ord.stepsL_cons ?s20 (Ord.stepsL_cons ?s21 (Ord.stepsL_cons ?s22 (Ord.stepsL_nil)))))))))))))))))))))))) ?fin
    case s0 =>
      intro g W L hL hSW hd
      try simp only [Nat.zero_add, Nat.reduceAdd] at hd ⊢
      with_reducible refine OpGives.pre_reads [] 140 ?_ ?_ ?_
      · rfl
      · kernel_rfl
      simp only [List.map_cons, List.map_nil]
      refine OpGives.val (w' := W) ?_ ⟨rfl, hSW⟩
      go_simp
      try with_reducible rfl
    case s1 =>
      intro g W L hL hSW hd
      try simp only [Nat.zero_add, Nat.reduceAdd] at hd ⊢
      have h0 : g 0 = _ := hd 0 (by decide) (by kernel_rfl)
      with_reducible refine OpGives.pre_reads [(89, 0)] 140 ?_ ?_ ?_
      · rfl
      · kernel_rfl
      simp only [List.map_cons, List.map_nil]
      refine OpGives.val (w' := W) ?_ ⟨rfl, hSW⟩
      go_simp
      try with_reducible rfl
    case s2 =>
      intro g W L hL hSW hd
      try simp only [Nat.zero_add, Nat.reduceAdd] at hd ⊢
      have h1 : g 1 = _ := hd 1 (by decide) (by kernel_rfl)
      with_reducible refine OpGives.pre_reads [(90, 1)] 140 ?_ ?_ ?_
      · rfl
      · kernel_rfl
      simp only [List.map_cons, List.map_nil]
      refine OpGives.val (w' := W) ?_ ⟨rfl, hSW⟩
      go_simp
      try with_reducible rfl
    case s3 =>
      intro g W L hL hSW hd
      try simp only [Nat.zero_add, Nat.reduceAdd] at hd ⊢
      have h2 : g 2 = _ := hd 2 (by decide) (by kernel_rfl)
      with_reducible refine OpGives.pre_reads [(91, 2)] 140 ?_ ?_ ?_
      · rfl
      · kernel_rfl
      simp only [List.map_cons, List.map_nil]
      have c := (WlAt.cells (Duo.thing hSW (t := worldT wb b rb tv xv) (by simp))).1; refine OpGives.val (w' := W) ?_ ⟨rfl, hSW⟩; go_simp
    case s4 =>
      intro g W L hL hSW hd
      try simp only [Nat.zero_add, Nat.reduceAdd] at hd ⊢
      with_reducible refine OpGives.pre_reads [] 140 ?_ ?_ ?_
      · rfl
      · kernel_rfl
      simp only [List.map_cons, List.map_nil]
      refine OpGives.val (w' := W) ?_ ⟨rfl, hSW⟩
      go_simp
      try with_reducible rfl
    case s5 =>
      intro g W L hL hSW hd
      try simp only [Nat.zero_add, Nat.reduceAdd] at hd ⊢
      have h4 : g 4 = _ := hd 4 (by decide) (by kernel_rfl)
      with_reducible refine OpGives.pre_reads [(93, 4)] 140 ?_ ?_ ?_
      · rfl
      · kernel_rfl
      simp only [List.map_cons, List.map_nil]
      have c := (act_cells (Duo.thing hSW (t := actT bk 5 i s ka kn kc) (by simp))).2.1; refine OpGives.val (w' := W) ?_ ⟨rfl, hSW⟩; go_simp
    case s6 =>
      intro g W L hL hSW hd
      try simp only [Nat.zero_add, Nat.reduceAdd] at hd ⊢
      with_reducible refine OpGives.pre_reads [] 140 ?_ ?_ ?_
      · rfl
      · kernel_rfl
      simp only [List.map_cons, List.map_nil]
      refine OpGives.val (w' := W) ?_ ⟨rfl, hSW⟩
      go_simp
      try with_reducible rfl
    case s7 =>
      intro g W L hL hSW hd
      try simp only [Nat.zero_add, Nat.reduceAdd] at hd ⊢
      with_reducible refine OpGives.pre_reads [] 140 ?_ ?_ ?_
      · rfl
      · kernel_rfl
      simp only [List.map_cons, List.map_nil]
      refine OpGives.val (w' := W) ?_ ⟨rfl, hSW⟩
      go_simp
      try with_reducible rfl
    case s8 =>
      intro g W L hL hSW hd
      try simp only [Nat.zero_add, Nat.reduceAdd] at hd ⊢
      have h7 : g 7 = _ := hd 7 (by decide) (by kernel_rfl)
      with_reducible refine OpGives.pre_reads [(96, 7)] 140 ?_ ?_ ?_
      · rfl
      · kernel_rfl
      simp only [List.map_cons, List.map_nil]
      have c := (act_cells (Duo.thing hSW (t := actT bk 5 i s ka kn kc) (by simp))).2.2.1; refine OpGives.val (w' := W) ?_ ⟨rfl, hSW⟩; go_simp
    case s9 =>
      intro g W L hL hSW hd
      try simp only [Nat.zero_add, Nat.reduceAdd] at hd ⊢
      have h6 : g 6 = _ := hd 6 (by decide) (by kernel_rfl)
      have h8 : g 8 = _ := hd 8 (by decide) (by kernel_rfl)
      with_reducible refine OpGives.pre_reads [(95, 6), (97, 8)] 140 ?_ ?_ ?_
      · rfl
      · kernel_rfl
      simp only [List.map_cons, List.map_nil]
      refine OpGives.call (f := 48) (args := #[.string was, .string s]) (w' := W) (by go_simp) ((spoilt_any was s (by have := HWAS.out; omega) (by have := HSZ.out; omega) W).mono fun e w' ⟨he, hn⟩ => ⟨_, he, rfl, Duo.grown hSW hn⟩)
    case s10 =>
      intro g W L hL hSW hd
      try simp only [Nat.zero_add, Nat.reduceAdd] at hd ⊢
      have h3 : g 3 = _ := hd 3 (by decide) (by kernel_rfl)
      have h5 : g 5 = _ := hd 5 (by decide) (by kernel_rfl)
      have h9 : g 9 = _ := hd 9 (by decide) (by kernel_rfl)
      with_reducible refine OpGives.pre_reads [(92, 3), (94, 5), (98, 9)] 140 ?_ ?_ ?_
      · rfl
      · kernel_rfl
      simp only [List.map_cons, List.map_nil]
      have hT : Duo B w (worldT wb b rb tv xv :: (tl ++ [actT bk 5 i s ka kn kc])) b rb D (D.write i (spB was s).data.toList).2 false (L 21) W := by {rw [← hL]; exact hSW}; refine OpGives.call (f := 34) (args := #[.pointer (some ⟨b, 0, none⟩), .int .i64 i, .string (spB was s)]) (w' := W) (by go_simp) ((Duo.left hT (fun td l' hd hsep => write_sep hsep hd i (spB was s) (by have := HSP.out; omega) (by have := HG.out.loose; have := HK.out; omega))).mono fun e w' ⟨he, ht⟩ => ⟨_, he, rfl, ht⟩)
    case s11 =>
      intro g W L hL hSW hd
      try simp only [Nat.zero_add, Nat.reduceAdd] at hd ⊢
      with_reducible refine OpGives.pre_reads [] 140 ?_ ?_ ?_
      · rfl
      · kernel_rfl
      simp only [List.map_cons, List.map_nil]
      refine OpGives.val (w' := W) ?_ ⟨rfl, hSW⟩
      go_simp
      try with_reducible rfl
    case s12 =>
      intro g W L hL hSW hd
      try simp only [Nat.zero_add, Nat.reduceAdd] at hd ⊢
      have h11 : g 11 = _ := hd 11 (by decide) (by kernel_rfl)
      with_reducible refine OpGives.pre_reads [(100, 11)] 140 ?_ ?_ ?_
      · rfl
      · kernel_rfl
      simp only [List.map_cons, List.map_nil]
      refine OpGives.val (w' := W) ?_ ⟨rfl, hSW⟩
      go_simp
      try with_reducible rfl
    case s13 =>
      intro g W L hL hSW hd
      try simp only [Nat.zero_add, Nat.reduceAdd] at hd ⊢
      have h12 : g 12 = _ := hd 12 (by decide) (by kernel_rfl)
      with_reducible refine OpGives.pre_reads [(101, 12)] 140 ?_ ?_ ?_
      · rfl
      · kernel_rfl
      simp only [List.map_cons, List.map_nil]
      refine OpGives.val (w' := W) ?_ ⟨rfl, hSW⟩
      go_simp
      try with_reducible rfl
    case s14 =>
      intro g W L hL hSW hd
      try simp only [Nat.zero_add, Nat.reduceAdd] at hd ⊢
      have h13 : g 13 = _ := hd 13 (by decide) (by kernel_rfl)
      with_reducible refine OpGives.pre_reads [(102, 13)] 140 ?_ ?_ ?_
      · rfl
      · kernel_rfl
      simp only [List.map_cons, List.map_nil]
      have c := (WlAt.cells (Duo.thing hSW (t := worldT wb b rb tv xv) (by simp))).2.1; refine OpGives.val (w' := W) ?_ ⟨rfl, hSW⟩; go_simp
    case s15 =>
      intro g W L hL hSW hd
      try simp only [Nat.zero_add, Nat.reduceAdd] at hd ⊢
      with_reducible refine OpGives.pre_reads [] 140 ?_ ?_ ?_
      · rfl
      · kernel_rfl
      simp only [List.map_cons, List.map_nil]
      refine OpGives.val (w' := W) ?_ ⟨rfl, hSW⟩
      go_simp
      try with_reducible rfl
    case s16 =>
      intro g W L hL hSW hd
      try simp only [Nat.zero_add, Nat.reduceAdd] at hd ⊢
      have h15 : g 15 = _ := hd 15 (by decide) (by kernel_rfl)
      with_reducible refine OpGives.pre_reads [(104, 15)] 140 ?_ ?_ ?_
      · rfl
      · kernel_rfl
      simp only [List.map_cons, List.map_nil]
      have c := (act_cells (Duo.thing hSW (t := actT bk 5 i s ka kn kc) (by simp))).2.1; refine OpGives.val (w' := W) ?_ ⟨rfl, hSW⟩; go_simp
    case s17 =>
      intro g W L hL hSW hd
      try simp only [Nat.zero_add, Nat.reduceAdd] at hd ⊢
      with_reducible refine OpGives.pre_reads [] 140 ?_ ?_ ?_
      · rfl
      · kernel_rfl
      simp only [List.map_cons, List.map_nil]
      refine OpGives.val (w' := W) ?_ ⟨rfl, hSW⟩
      go_simp
      try with_reducible rfl
    case s18 =>
      intro g W L hL hSW hd
      try simp only [Nat.zero_add, Nat.reduceAdd] at hd ⊢
      with_reducible refine OpGives.pre_reads [] 140 ?_ ?_ ?_
      · rfl
      · kernel_rfl
      simp only [List.map_cons, List.map_nil]
      refine OpGives.val (w' := W) ?_ ⟨rfl, hSW⟩
      go_simp
      try with_reducible rfl
    case s19 =>
      intro g W L hL hSW hd
      try simp only [Nat.zero_add, Nat.reduceAdd] at hd ⊢
      have h18 : g 18 = _ := hd 18 (by decide) (by kernel_rfl)
      with_reducible refine OpGives.pre_reads [(107, 18)] 140 ?_ ?_ ?_
      · rfl
      · kernel_rfl
      simp only [List.map_cons, List.map_nil]
      have c := (act_cells (Duo.thing hSW (t := actT bk 5 i s ka kn kc) (by simp))).2.2.1; refine OpGives.val (w' := W) ?_ ⟨rfl, hSW⟩; go_simp
    case s20 =>
      intro g W L hL hSW hd
      try simp only [Nat.zero_add, Nat.reduceAdd] at hd ⊢
      have h17 : g 17 = _ := hd 17 (by decide) (by kernel_rfl)
      have h19 : g 19 = _ := hd 19 (by decide) (by kernel_rfl)
      with_reducible refine OpGives.pre_reads [(106, 17), (108, 19)] 140 ?_ ?_ ?_
      · rfl
      · kernel_rfl
      simp only [List.map_cons, List.map_nil]
      refine OpGives.call (f := 48) (args := #[.string was, .string s]) (w' := W) (by go_simp) ((spoilt_any was s (by have := HWAS.out; omega) (by have := HSZ.out; omega) W).mono fun e w' ⟨he, hn⟩ => ⟨_, he, rfl, Duo.grown hSW hn⟩)
    case s21 =>
      intro g W L hL hSW hd
      try simp only [Nat.zero_add, Nat.reduceAdd] at hd ⊢
      have h14 : g 14 = _ := hd 14 (by decide) (by kernel_rfl)
      have h16 : g 16 = _ := hd 16 (by decide) (by kernel_rfl)
      have h20 : g 20 = _ := hd 20 (by decide) (by kernel_rfl)
      with_reducible refine OpGives.pre_reads [(103, 14), (105, 16), (109, 20)] 140 ?_ ?_ ?_
      · rfl
      · kernel_rfl
      simp only [List.map_cons, List.map_nil]
      have hT : Duo B w (worldT wb b rb tv xv :: (tl ++ [actT bk 5 i s ka kn kc])) b rb D (D.write i (spB was s).data.toList).2 (L 10) false W := by {rw [← hL]; exact hSW}; refine OpGives.call (f := 49) (args := #[.pointer (some ⟨rb, 0, none⟩), .int .i64 i, .string (spB was s)]) (w' := W) (by go_simp) ((Duo.right (v := .int .i64 (D.write i (spB was s).data.toList).1) hT (fun tr R l' hr hsim hsep => (rwrite_sep hsep hr i (spB was s) hsim.fuse_le (by rw [hsim.w, List.length_map]; have := HG.out.loose; have := HK.out; omega) (by have := HSP.out; unfold maxLen; omega)).mono fun e W' ⟨he, hd⟩ => ⟨by rw [he, (sim_write hsim i (spB was s)).1], (R.write i (spB was s)).2, (sim_write hsim i (spB was s)).2, hd⟩)).mono fun e w' ⟨he, ht⟩ => ⟨_, he, rfl, ht⟩)
    case s22 =>
      intro g W L hL hSW hd
      try simp only [Nat.zero_add, Nat.reduceAdd] at hd ⊢
      have h10 : g 10 = _ := hd 10 (by decide) (by kernel_rfl)
      have h21 : g 21 = _ := hd 21 (by decide) (by kernel_rfl)
      with_reducible refine OpGives.pre_reads [(99, 10), (110, 21)] 140 ?_ ?_ ?_
      · rfl
      · kernel_rfl
      simp only [List.map_cons, List.map_nil]
      refine OpGives.val (w' := W) ?_ ⟨rfl, hSW⟩
      go_simp
      try with_reducible rfl
    case h0 => exact HQ.out.grown (below_drewN' (n := 1) (below_drewN' (Below.refl _ _)))
    case fin =>
      intro v W' L hL hSW hf
      have h9 : v 22 = _ := hf 22 (Nat.lt_of_lt_of_eq (by decide : 22 < 23) rfl)
      have hTT : Duo B w (worldT wb b rb tv xv :: (tl ++ [actT bk 5 i s ka kn kc])) b rb D (D.write i (spB was s).data.toList).2 true true W' := by
        have l3 := hL 10 (Nat.lt_of_lt_of_eq (by decide : 10 < 23) rfl)
        have l7 := hL 21 (Nat.lt_of_lt_of_eq (by decide : 21 < 23) rfl)
        have hS : Duo B w (worldT wb b rb tv xv :: (tl ++ [actT bk 5 i s ka kn kc])) b rb D (D.write i (spB was s).data.toList).2 (L 10) (L 21) W' := hSW
        rw [l3, l7] at hS; exact hS
      clear hf
      generalize hF : Ord.pre _ _ v _ = F
      rw [Ord.pre_lit [some 89, some 90, some 91, some 92, some 93, some 94, some 95, some 96, some 97, some 98, some 99, some 100, some 101, some 102, some 103, some 104, some 105, some 106, some 107, some 108, some 109, some 110, some 111]
        (by kernel_rfl)] at hF
      simp only [Ord.puts, Nat.zero_add, Nat.reduceAdd] at hF
      subst hF
      rw [h9]
      have HT3 := Lib.hid (duo_pw HG.out hTT HTP.out HAR.out.1 (by have := HAR.out.2; omega))
      clear hTT h9
      refine any_one (i := 23) (by kernel_rfl) ?_
      refine wpOp_value (v := .bool true) (w' := W') rfl rfl (by go_simp) ?_
      refine wpAny_done (by kernel_rfl) ?_ _
      try simp only [List.getElem_toArray, List.getElem_cons_succ, List.getElem_cons_zero]
      go_frame
      go_wp2_with fail
      go_ret
      obtain ⟨R', h1, h2, h3⟩ := HT3.out
      exact ⟨rfl, _, R', h1, h2, HAR.out.1, h3.more⟩
  · have he' : (er != 0) = true := by simpa using he
    go_enter Tryd.func23, Tryd.ntmps23
    go_wp2_with fail
    rw [← HBK.out, ← HW1.out]
    try go_wp2_with fail
    refine wp_region_quiet_lit (by kernel_rfl) (by kernel_rfl) ?_
    repeat (quiet_step (fail))
    refine wpQuiet_step (fun K hK => ?_)
    go_simp
    apply Exists.intro
    refine ⟨fun _ => Calls.quiet_of_same ((HRD.out _ (below_drewN' (Below.refl _ _))).mono fun _ _ h => ⟨h.1, h.2.symm⟩), hK _ ?_⟩
    clear hK K
    repeat (quiet_step (fail))
    refine wpQuiet_nil ?_
    intro _ hw'
    obtain ⟨nq, hw''⟩ := hw'
    subst hw''
    go_wp2_with fail
    go_ret
    exact ⟨rfl, D, R, HS.out, HG.out.more, rfl, td, tr, tv, xv, tl, HTD.out, HTR.out, HTP.out.more, (HS1.out.drewN _).tail⟩
set_option maxRecDepth 100000 in
set_option maxHeartbeats 16000000 in
theorem step0 {B : Nat} {w W : World} {wb b rb k : Nat} {D : DS} {R : RS} (hP : PW B w wb b rb D R k W) (hs : Sim D R) (hg : Gd D k) (hk : k ≤ 100) (kind : Int) (hkd : kind ≠ 1 ∧ kind ≠ 2 ∧ kind ≠ 3 ∧ kind ≠ 4 ∧ kind ≠ 5) (i : Int) (s : ByteArray) (hsz : s.size ≤ 600) (ka : Option Addr) (kn kc : Nat) :
    Calls Tryd.prog 23 #[.pointer (some ⟨wb, 0, none⟩), .agg (acells kind i s ka kn kc)] W (Went B w wb b rb D.sure.length k) := by
  obtain ⟨td, tr, tv, xv, tl, htd, htr, htp, hsep⟩ := hP
  have hs1 := act_new hsep kind i s ka kn kc
  obtain ⟨bk, hbk⟩ : ∃ bk, bk = W.heap.size := ⟨_, rfl⟩
  obtain ⟨W1, hW1⟩ : ∃ W1, W1 = W.alloc (.cells #[.int .i64 kind, .int .i64 i, .string s, .slice ka kn kc] 55) := ⟨_, rfl⟩
  rw [← hW1, ← hbk] at hs1
  obtain ⟨q0, q1, q2, _⟩ := act_cells (sep_head hs1)
  have k1' : (kind == 1) = false := by simpa using hkd.1
  have k2' : (kind == 2) = false := by simpa using hkd.2.1
  have k3' : (kind == 3) = false := by simpa using hkd.2.2.1
  have k4' : (kind == 4) = false := by simpa using hkd.2.2.2.1
  have k5' : (kind == 5) = false := by simpa using hkd.2.2.2.2
  have HG := Lib.hid hg
  have HBK := Lib.hid hbk
  have HW1 := Lib.hid hW1
  have HS := Lib.hid hs
  have HTD := Lib.hid htd
  have HTR := Lib.hid htr
  have HSZ := Lib.hid hsz
  have HK := Lib.hid hk
  unfold acells
  rcases htp with ⟨rfl, rfl, rfl⟩ | ⟨tb, xb, T, rfl, rfl, rfl, hat, hlf, hct⟩
  · obtain ⟨c0, c1, c2, c3⟩ := WlAt.cells (hs1.all (worldT wb b rb (.pointer none) (.pointer none)) (by simp)).1
    have d3 := c3
    have d2 := c2
    rw [hW1] at d3 d2
    have HS1 := Lib.hid hs1
    clear hs1 hsep hg hbk hW1 hs htd htr hsz hk hkd
    go_enter Tryd.func23, Tryd.ntmps23
    go_wp2_with fail
    rw [← HBK.out, ← HW1.out]
    try go_wp2_with fail
    refine wp_region_quiet_lit (by kernel_rfl) (by kernel_rfl) ?_
    repeat (quiet_step (fail))
    refine wpQuiet_step (fun K hK => ?_)
    go_simp
    apply Exists.intro
    refine ⟨fun _ => Calls.quiet_of_same (tappend_no (.pointer none) _ (.inl rfl) s), hK _ ?_⟩
    clear hK K
    repeat (quiet_step (fail))
    refine wpQuiet_nil ?_
    intro _ hw'
    obtain ⟨nq, hw''⟩ := hw'
    subst hw''
    go_wp2_with fail
    go_ret
    exact ⟨rfl, D, R, HS.out, HG.out.more, rfl, td, tr, _, _, [], HTD.out, HTR.out, .inl ⟨rfl, rfl, rfl⟩, (HS1.out.drewN _).tail⟩
  · obtain ⟨c0, c1, c2, c3⟩ := WlAt.cells (hs1.all (worldT wb b rb (.pointer (some ⟨tb, 0, none⟩)) (.pointer (some ⟨xb, 0, none⟩))) (by simp)).1
    have d3 := c3
    have d2 := c2
    rw [hW1] at d3 d2
    obtain ⟨T2, hT2⟩ : ∃ T2, T2 = T.append D s.data.toList := ⟨_, rfl⟩
    have hq : Quad B w [worldT wb b rb (.pointer (some ⟨tb, 0, none⟩)) (.pointer (some ⟨xb, 0, none⟩)), actT bk kind i s ka kn kc] b rb tb xb D T2.2.2 T T2.2.1 false false W1 := by
      refine ⟨td, tr, htd, ⟨R, htr, hs⟩, hs1.perm ?_⟩
      refine (List.perm_append_comm (l₁ := [_, _]) (l₂ := [td, tr, tapeT tb b T, rtapeT xb rb T])).trans ?_
      exact List.Perm.append_left _ (List.Perm.swap _ _ _)
    have HQ := Lib.hid hq
    have hlen := tappend_len T D s.data.toList (by rw [← Lib.size_eq]; exact hsz) hat
    rw [← hT2] at hlen
    have HT2 := Lib.hid hT2
    have HLEN := Lib.hid hlen
    have HB := Lib.hid (⟨hat, hlf, hct⟩ : T.at_ ≤ D.sure.length ∧ T.life ≤ 4294967295 ∧ T.count ≤ 5000 + k)
    clear hs1 hsep hg hbk hW1 hs htd htr hq hlen hat hlf hct hsz hk hkd hT2
    go_enter Tryd.func23, Tryd.ntmps23
    go_wp2_with fail
    rw [← HBK.out, ← HW1.out]
    try go_wp2_with fail
    refine' wp_region_factsL (S := (fun L W' => Quad B w [worldT wb b rb (.pointer (some ⟨tb, 0, none⟩)) (.pointer (some ⟨xb, 0, none⟩)), actT bk kind i s ka kn kc] b rb tb xb D T2.2.2 T T2.2.1 (L 6) (L 13) W')) [eqF _ _, eqF _ _, eqF _ _, eqF _ (.pointer (some ⟨tb, 0, none⟩)), eqF _ _, eqF _ (.string s), eqF _ (.int .i64 T2.1), eqF _ _, eqF _ _, eqF _ _, eqF _ (.pointer (some ⟨xb, 0, none⟩)), eqF _ _, eqF _ (.string s), eqF _ (.int .i64 T2.1), eqF _ (.bool true)] (by kernel_rfl) (by kernel_rfl) ?h0 (Ord.stepsL_cons ?s0 (Ord.stepsL_cons ?s1 (Ord.stepsL_cons ?s2 (Ord.stepsL_cons ?s3 (Ord.stepsL_cons ?s4 (Ord.stepsL_cons ?s5 (Ord.stepsL_cons ?s6 (Ord.stepsL_cons ?s7 (Ord.stepsL_cons ?s8 (Ord.stepsL_cons ?s9 (Ord.stepsL_cons ?s10 (Ord.stepsL_cons ?s11 (Ord.stepsL_cons ?s12 (Ord.stepsL_cons ?s13 (Ord.stepsL_cons ?s14 (Ord.stepsL_nil)))))))))))))))) ?fin
    case s0 =>
      intro g W L hL hSW hd
      try simp only [Nat.zero_add, Nat.reduceAdd] at hd ⊢
      with_reducible refine OpGives.pre_reads [] 140 ?_ ?_ ?_
      · rfl
      · kernel_rfl
      simp only [List.map_cons, List.map_nil]
      refine OpGives.val (w' := W) ?_ ⟨rfl, hSW⟩
      go_simp
      try with_reducible rfl
    case s1 =>
      intro g W L hL hSW hd
      try simp only [Nat.zero_add, Nat.reduceAdd] at hd ⊢
      have h0 : g 0 = _ := hd 0 (by decide) (by kernel_rfl)
      with_reducible refine OpGives.pre_reads [(125, 0)] 140 ?_ ?_ ?_
      · rfl
      · kernel_rfl
      simp only [List.map_cons, List.map_nil]
      refine OpGives.val (w' := W) ?_ ⟨rfl, hSW⟩
      go_simp
      try with_reducible rfl
    case s2 =>
      intro g W L hL hSW hd
      try simp only [Nat.zero_add, Nat.reduceAdd] at hd ⊢
      have h1 : g 1 = _ := hd 1 (by decide) (by kernel_rfl)
      with_reducible refine OpGives.pre_reads [(126, 1)] 140 ?_ ?_ ?_
      · rfl
      · kernel_rfl
      simp only [List.map_cons, List.map_nil]
      refine OpGives.val (w' := W) ?_ ⟨rfl, hSW⟩
      go_simp
      try with_reducible rfl
    case s3 =>
      intro g W L hL hSW hd
      try simp only [Nat.zero_add, Nat.reduceAdd] at hd ⊢
      have h2 : g 2 = _ := hd 2 (by decide) (by kernel_rfl)
      with_reducible refine OpGives.pre_reads [(127, 2)] 140 ?_ ?_ ?_
      · rfl
      · kernel_rfl
      simp only [List.map_cons, List.map_nil]
      have c := (WlAt.cells (Quad.thing hSW (t := worldT wb b rb (.pointer (some ⟨tb, 0, none⟩)) (.pointer (some ⟨xb, 0, none⟩))) (by simp))).2.2.1; refine OpGives.val (w' := W) ?_ ⟨rfl, hSW⟩; go_simp
    case s4 =>
      intro g W L hL hSW hd
      try simp only [Nat.zero_add, Nat.reduceAdd] at hd ⊢
      with_reducible refine OpGives.pre_reads [] 140 ?_ ?_ ?_
      · rfl
      · kernel_rfl
      simp only [List.map_cons, List.map_nil]
      refine OpGives.val (w' := W) ?_ ⟨rfl, hSW⟩
      go_simp
      try with_reducible rfl
    case s5 =>
      intro g W L hL hSW hd
      try simp only [Nat.zero_add, Nat.reduceAdd] at hd ⊢
      have h4 : g 4 = _ := hd 4 (by decide) (by kernel_rfl)
      with_reducible refine OpGives.pre_reads [(129, 4)] 140 ?_ ?_ ?_
      · rfl
      · kernel_rfl
      simp only [List.map_cons, List.map_nil]
      have c := (act_cells (Quad.thing hSW (t := actT bk kind i s ka kn kc) (by simp))).2.2.1; refine OpGives.val (w' := W) ?_ ⟨rfl, hSW⟩; go_simp
    case s6 =>
      intro g W L hL hSW hd
      try simp only [Nat.zero_add, Nat.reduceAdd] at hd ⊢
      have h3 : g 3 = _ := hd 3 (by decide) (by kernel_rfl)
      have h5 : g 5 = _ := hd 5 (by decide) (by kernel_rfl)
      with_reducible refine OpGives.pre_reads [(128, 3), (130, 5)] 140 ?_ ?_ ?_
      · rfl
      · kernel_rfl
      simp only [List.map_cons, List.map_nil]
      have hT : Quad B w [worldT wb b rb (.pointer (some ⟨tb, 0, none⟩)) (.pointer (some ⟨xb, 0, none⟩)), actT bk kind i s ka kn kc] b rb tb xb D T2.2.2 T T2.2.1 false (L 13) W := by {rw [← hL]; exact hSW}; refine OpGives.call (f := 10) (args := #[.pointer (some ⟨tb, 0, none⟩), .string s]) (w' := W) (by go_simp) ((Quad.left (v := T2.1) hT (fun td l' hd hsep => by have := append_tape hsep hd (by have := HG.out.loose; have := HK.out; omega) s (by have := HSZ.out; omega) HB.out.1 (by have := HB.out.2.1; omega) (by have := HB.out.2.2; have := HK.out; omega); rw [← HT2.out] at this; exact this)).mono fun e w' ⟨he, ht⟩ => ⟨_, he, rfl, ht⟩)
    case s7 =>
      intro g W L hL hSW hd
      try simp only [Nat.zero_add, Nat.reduceAdd] at hd ⊢
      with_reducible refine OpGives.pre_reads [] 140 ?_ ?_ ?_
      · rfl
      · kernel_rfl
      simp only [List.map_cons, List.map_nil]
      refine OpGives.val (w' := W) ?_ ⟨rfl, hSW⟩
      go_simp
      try with_reducible rfl
    case s8 =>
      intro g W L hL hSW hd
      try simp only [Nat.zero_add, Nat.reduceAdd] at hd ⊢
      have h7 : g 7 = _ := hd 7 (by decide) (by kernel_rfl)
      with_reducible refine OpGives.pre_reads [(132, 7)] 140 ?_ ?_ ?_
      · rfl
      · kernel_rfl
      simp only [List.map_cons, List.map_nil]
      refine OpGives.val (w' := W) ?_ ⟨rfl, hSW⟩
      go_simp
      try with_reducible rfl
    case s9 =>
      intro g W L hL hSW hd
      try simp only [Nat.zero_add, Nat.reduceAdd] at hd ⊢
      have h8 : g 8 = _ := hd 8 (by decide) (by kernel_rfl)
      with_reducible refine OpGives.pre_reads [(133, 8)] 140 ?_ ?_ ?_
      · rfl
      · kernel_rfl
      simp only [List.map_cons, List.map_nil]
      refine OpGives.val (w' := W) ?_ ⟨rfl, hSW⟩
      go_simp
      try with_reducible rfl
    case s10 =>
      intro g W L hL hSW hd
      try simp only [Nat.zero_add, Nat.reduceAdd] at hd ⊢
      have h9 : g 9 = _ := hd 9 (by decide) (by kernel_rfl)
      with_reducible refine OpGives.pre_reads [(134, 9)] 140 ?_ ?_ ?_
      · rfl
      · kernel_rfl
      simp only [List.map_cons, List.map_nil]
      have c := (WlAt.cells (Quad.thing hSW (t := worldT wb b rb (.pointer (some ⟨tb, 0, none⟩)) (.pointer (some ⟨xb, 0, none⟩))) (by simp))).2.2.2; refine OpGives.val (w' := W) ?_ ⟨rfl, hSW⟩; go_simp
    case s11 =>
      intro g W L hL hSW hd
      try simp only [Nat.zero_add, Nat.reduceAdd] at hd ⊢
      with_reducible refine OpGives.pre_reads [] 140 ?_ ?_ ?_
      · rfl
      · kernel_rfl
      simp only [List.map_cons, List.map_nil]
      refine OpGives.val (w' := W) ?_ ⟨rfl, hSW⟩
      go_simp
      try with_reducible rfl
    case s12 =>
      intro g W L hL hSW hd
      try simp only [Nat.zero_add, Nat.reduceAdd] at hd ⊢
      have h11 : g 11 = _ := hd 11 (by decide) (by kernel_rfl)
      with_reducible refine OpGives.pre_reads [(136, 11)] 140 ?_ ?_ ?_
      · rfl
      · kernel_rfl
      simp only [List.map_cons, List.map_nil]
      have c := (act_cells (Quad.thing hSW (t := actT bk kind i s ka kn kc) (by simp))).2.2.1; refine OpGives.val (w' := W) ?_ ⟨rfl, hSW⟩; go_simp
    case s13 =>
      intro g W L hL hSW hd
      try simp only [Nat.zero_add, Nat.reduceAdd] at hd ⊢
      have h10 : g 10 = _ := hd 10 (by decide) (by kernel_rfl)
      have h12 : g 12 = _ := hd 12 (by decide) (by kernel_rfl)
      with_reducible refine OpGives.pre_reads [(135, 10), (137, 12)] 140 ?_ ?_ ?_
      · rfl
      · kernel_rfl
      simp only [List.map_cons, List.map_nil]
      have hT : Quad B w [worldT wb b rb (.pointer (some ⟨tb, 0, none⟩)) (.pointer (some ⟨xb, 0, none⟩)), actT bk kind i s ka kn kc] b rb tb xb D T2.2.2 T T2.2.1 (L 6) false W := by {rw [← hL]; exact hSW}; refine OpGives.call (f := 50) (args := #[.pointer (some ⟨xb, 0, none⟩), .string s]) (w' := W) (by go_simp) ((Quad.right (v := T2.1) hT (fun tr R l' hr hsim hsep => by have := rappend_tape hsep hr hsim (by have := HG.out.few; omega) (by have := HG.out.loose; have := HK.out; omega) s (by have := HSZ.out; omega) HB.out.1 (by have := HB.out.2.1; omega) (by have := HB.out.2.2; have := HK.out; omega); rw [← HT2.out] at this; exact this)).mono fun e w' ⟨he, ht⟩ => ⟨_, he, rfl, ht⟩)
    case s14 =>
      intro g W L hL hSW hd
      try simp only [Nat.zero_add, Nat.reduceAdd] at hd ⊢
      have h6 : g 6 = _ := hd 6 (by decide) (by kernel_rfl)
      have h13 : g 13 = _ := hd 13 (by decide) (by kernel_rfl)
      with_reducible refine OpGives.pre_reads [(131, 6), (138, 13)] 140 ?_ ?_ ?_
      · rfl
      · kernel_rfl
      simp only [List.map_cons, List.map_nil]
      refine OpGives.val (w' := W) ?_ ⟨rfl, hSW⟩
      go_simp
      try with_reducible rfl
    case h0 => exact HQ.out.grown (below_drewN' (n := 1) (Below.refl _ _))
    case fin =>
      intro v W' L hL hSW hf
      have h9 : v 14 = _ := hf 14 (Nat.lt_of_lt_of_eq (by decide : 14 < 15) rfl)
      have hTT : Quad B w [worldT wb b rb (.pointer (some ⟨tb, 0, none⟩)) (.pointer (some ⟨xb, 0, none⟩)), actT bk kind i s ka kn kc] b rb tb xb D T2.2.2 T T2.2.1 true true W' := by
        have l3 := hL 6 (Nat.lt_of_lt_of_eq (by decide : 6 < 15) rfl)
        have l7 := hL 13 (Nat.lt_of_lt_of_eq (by decide : 13 < 15) rfl)
        have hS : Quad B w [worldT wb b rb (.pointer (some ⟨tb, 0, none⟩)) (.pointer (some ⟨xb, 0, none⟩)), actT bk kind i s ka kn kc] b rb tb xb D T2.2.2 T T2.2.1 (L 6) (L 13) W' := hSW
        rw [l3, l7] at hS; exact hS
      clear hf
      generalize hF : Ord.pre _ _ v _ = F
      rw [Ord.pre_lit [some 125, some 126, some 127, some 128, some 129, some 130, some 131, some 132, some 133, some 134, some 135, some 136, some 137, some 138, some 139]
        (by kernel_rfl)] at hF
      simp only [Ord.puts, Nat.zero_add, Nat.reduceAdd] at hF
      subst hF
      rw [h9]
      have HT3 := Lib.hid (quad_went (e := .returned (.bool true)) HG.out hTT HLEN.out.1 HLEN.out.2.1 HLEN.out.2.2.1 (by have := HLEN.out; have := HB.out; omega) (by have := HLEN.out; have := HB.out; omega))
      clear hTT h9
      refine any_one (i := 15) (by kernel_rfl) ?_
      refine wpOp_value (v := .bool true) (w' := W') rfl rfl (by go_simp) ?_
      refine wpAny_done (by kernel_rfl) ?_ _
      try simp only [List.getElem_toArray, List.getElem_cons_succ, List.getElem_cons_zero]
      go_frame
      go_wp2_with fail
      go_ret
      exact HT3.out
/-- A call of both sides is answered alike. -/
theorem wstep {B : Nat} {w W : World} {wb b rb k : Nat} {D : DS} {R : RS} (hP : PW B w wb b rb D R k W) (hs : Sim D R) (hg : Gd D k) (hk : k ≤ 100) (a : ActV) (ha : ActOk B w a) (hsz : a.s.size ≤ 600) :
    Calls Tryd.prog 23 #[.pointer (some ⟨wb, 0, none⟩), .agg a.cells] W (Went B w wb b rb D.sure.length k) := by
  obtain ⟨kind, i, s, ka, kn, kc, zs⟩ := a
  by_cases k1 : kind = 1
  · subst k1; exact step1 hP hs hg hk i s ka kn kc
  by_cases k2 : kind = 2
  · subst k2; exact step2 hP hs hg hk i s ka kn kc
  by_cases k3 : kind = 3
  · subst k3; exact step3 hP hs hg hk i s ka kn kc zs ha.ints ha.old
  by_cases k4 : kind = 4
  · subst k4; exact step4 hP hs hg hk i ha.i s ka kn kc
  by_cases k5 : kind = 5
  · subst k5; exact step5 hP hs hg hk i s hsz ka kn kc
  exact step0 hP hs hg hk kind ⟨k1, k2, k3, k4, k5⟩ i s hsz ka kn kc
end Go.Proofs.YteljihpheffjnaaDoor.Tape
/- The law's alike: both drums and both tapes. -/
namespace Go.Proofs.YteljihpheffjnaaDoor.Tape
open Go.RowKit Go.Proofs.YteljihpheffjnaaDoor.Ord Go.Proofs.YteljihpheffjnaaDoorW.PrintWords Go.Proofs.YteljihpheffjnaaDoor.Base Go.Proofs.YteljihpheffjnaaDoor.Drum
set_option linter.unusedVariables false
set_option linter.unusedSimpArgs false
attribute [local go_sem] rdl_const rdl_func rdl_global rdl_nil rdl_cons
attribute [local irreducible] OpGives

theorem permD (a b c d : Thing) (l : List Thing) : (a :: b :: c :: d :: l).Perm (d :: b :: c :: a :: l) :=
  (permB a b c d l).trans (List.Perm.cons _ (List.Perm.cons _ (List.Perm.swap _ _ _)))
set_option maxRecDepth 100000 in
set_option maxHeartbeats 16000000 in
theorem walike_sep {B : Nat} {w W : World} {wb b rb k : Nat} {D : DS} {R : RS} {td tr : Thing} {tv xv : Value} {tl l : List Thing} (htd : IsDrum b D td) (htr : IsRef rb R tr) (htp : TapeP b rb D.sure.length k tv xv tl)
    (hsep : Sep B w W (worldT wb b rb tv xv :: td :: tr :: (tl ++ l))) (hs : Sim D R) (hg : Gd D k) (hk : k ≤ 100) :
    Calls Tryd.prog 24 #[.pointer (some ⟨wb, 0, none⟩)] W fun e W' => e = .returned (.bool true) ∧ Sep B w W' (worldT wb b rb tv xv :: td :: tr :: (tl ++ l)) := by
  obtain ⟨n, hnn⟩ : ∃ n, n = R.S.length := ⟨_, rfl⟩
  have hnd : n = D.sure.length := by rw [hnn, hs.s, List.length_map]
  have hn4 : n ≤ 4096 := by have := hg.few; omega
  have HNN := Lib.hid hnn
  have HND := Lib.hid hnd
  have HN4 := Lib.hid hn4
  have HG := Lib.hid hg
  have HK := Lib.hid hk
  have HS := Lib.hid hs
  have HTD := Lib.hid htd
  have HTR := Lib.hid htr
  have HTP := Lib.hid htp
  have H := Lib.hid hsep
  clear hnn hnd hg hk hs htd htr htp hsep hn4
  go_enter Tryd.func24, Tryd.ntmps24
  go_wp2_with fail
  go_loopw [3] (fun t wr => ∃ i : Nat, i ≤ n ∧ t = .int .i64 (i : Int) ∧ Sep B w wr (worldT wb b rb tv xv :: td :: tr :: (tl ++ l))) (fun t _ => n - (intOf t).toNat)
  case atStart => exact ⟨0, Nat.zero_le _, rfl, H.out⟩
  case round =>
    obtain ⟨i, hi, rfl, hsep⟩ := hrel
    obtain ⟨c0, c1, c2, c3⟩ := WlAt.cells (sep_head hsep)
    obtain ⟨a, cp, a', cp', r0, r1, r3⟩ := IsRef.cells (hsep.perm (List.perm_middle (l₁ := [_, _]))) HTR.out
    rw [← HNN.out] at r0
    have hm1 : ((i : Int) + 1).toNat = i + 1 := by omega
    have HSEP := Lib.hid hsep
    clear hsep r1 r3
    by_cases hlt : i < n
    · have hn4 := HN4.out
      have hrd := read_sep (HSEP.out.perm (List.Perm.swap _ _ _)) HTD.out (by have := HG.out.loose; have := HK.out; omega) (i : Int)
      have HRD := Lib.hid hrd
      clear hrd
      go_wp2_with fail
      refine HRD.out.mono ?_
      rintro e W1 ⟨rfl, hs1⟩
      have HS1 := Lib.hid (hs1.perm (List.Perm.swap _ _ _))
      obtain ⟨c0, c1, c2, c3⟩ := WlAt.cells (sep_head HS1.out)
      have hrr := rread_sep (HS1.out.perm (List.perm_middle (l₁ := [_, _]))) HTR.out (i : Int)
      obtain ⟨hr1, hr2⟩ := sim_read HS.out (i : Int)
      rw [← hr1, ← hr2] at hrr
      have HRR := Lib.hid hrr
      clear hs1 hrr hr1 hr2 HRD
      go_wp2_with fail
      refine HRR.out.mono ?_
      rintro e W2 ⟨rfl, rfl⟩
      rw [show (⟨(D.read (i : Int)).1.toArray⟩ : ByteArray) = str (D.read (i : Int)).1 from rfl]
      go_wp2_with fail
      go_roundw
      case rel => exact ⟨i + 1, hlt, by go_num, HS1.out⟩
      case measure =>
        simp only [intOf, Int.toNat_natCast, hm1]
        omega
    · rcases HTP.out with ⟨rfl, rfl, rfl⟩ | ⟨tb, xb, T, rfl, rfl, rfl, hat, hlf, hct⟩
      · have HTN := Lib.hid (tlen_no (.pointer none) wr (.inl rfl))
        go_wp2_with fail
        refine HTN.out.mono ?_
        rintro e w' ⟨rfl, rfl⟩
        go_wp2_with fail
        go_ret
        exact ⟨rfl, HSEP.out⟩
      · have hTA : ∀ m, TAt (wr.drewN m) tb b T := fun m => (HSEP.out.drewN m |>.all (tapeT tb b T) (by simp)).1
        have hXA : RTAt wr xb rb T := (HSEP.out.all (rtapeT xb rb T) (by simp)).1
        have x1 := hXA.c1
        have x2 := hXA.c2
        have x3 := hXA.c3
        have hq1 := fun m => tlen_tape (hTA m)
        have hq2 := fun m => tlife_tape (hTA m)
        have hq3 := fun m => troom_tape (t := td) (D := D) (l := tr :: worldT wb b rb (.pointer (some ⟨tb, 0, none⟩)) (.pointer (some ⟨xb, 0, none⟩)) :: rtapeT xb rb T :: l) ((HSEP.out.drewN m).perm (permD _ _ _ _ _)) HTD.out hat
        rw [← HND.out] at hq3
        have hw : IntKind.i64.wrap ((n : Int) - (T.at_ : Int)) = ((n - T.at_ : Nat) : Int) := by have := HND.out; have := HN4.out; rw [IntKind.wrap_i64]; omega
        have hw2 : wrap64 ((n : Int) - (T.at_ : Int)) = ((n - T.at_ : Nat) : Int) := by have := HND.out; have := HN4.out; unfold wrap64; omega
        have Q1 := Lib.hid hq1
        have Q2 := Lib.hid hq2
        have Q3 := Lib.hid hq3
        have HB := Lib.hid (⟨hat, hlf, hct⟩ : T.at_ ≤ D.sure.length ∧ T.life ≤ 4294967295 ∧ T.count ≤ 5000 + k)
        clear hTA hXA hq1 hq2 hq3 hat hlf hct
        go_wp2_with fail
        refine wp_region_quiet_lit (by kernel_rfl) (by kernel_rfl) ?_
        repeat (quiet_step (fail))
        refine wpQuiet_step (fun K hK => ?_)
        go_simp
        apply Exists.intro
        refine ⟨fun _ => Calls.quiet_of_same (Q1.out _), hK _ ?_⟩
        clear hK K
        repeat (quiet_step (fail))
        refine wpQuiet_step (fun K hK => ?_)
        go_simp
        apply Exists.intro
        refine ⟨fun _ => Calls.quiet_of_same (Q2.out _), hK _ ?_⟩
        clear hK K
        repeat (quiet_step (fail))
        refine wpQuiet_step (fun K hK => ?_)
        go_simp
        apply Exists.intro
        refine ⟨fun _ => Calls.quiet_of (Q3.out _), hK _ ?_⟩
        clear hK K
        repeat (quiet_step (fail))
        refine wpQuiet_nil ?_
        intro _ hw'
        obtain ⟨nq, hw''⟩ := hw'
        subst hw''
        go_wp2_with fail
        go_ret
        exact ⟨rfl, HSEP.out.drewN _⟩
theorem walike {B : Nat} {w W : World} {wb b rb k : Nat} {D : DS} {R : RS} (hP : PW B w wb b rb D R k W) (hs : Sim D R) (hg : Gd D k) (hk : k ≤ 100) :
    Calls Tryd.prog 24 #[.pointer (some ⟨wb, 0, none⟩)] W fun e W' => e = .returned (.bool true) ∧ PW B w wb b rb D R k W' := by
  obtain ⟨td, tr, tv, xv, tl, htd, htr, htp, hsep⟩ := hP
  have h1 := walike_sep (l := []) (tl := tl) htd htr htp (by rw [List.append_nil]; exact hsep) hs hg hk
  rw [List.append_nil] at h1
  exact h1.mono fun e W' h => ⟨h.1, td, tr, tv, xv, tl, htd, htr, htp, h.2⟩
end Go.Proofs.YteljihpheffjnaaDoor.Tape
/- Need, of any number: the program's and the document's. -/
namespace Go.Proofs.YteljihpheffjnaaDoor.Tape
open Go.RowKit Go.Proofs.YteljihpheffjnaaDoor.Ord Go.Proofs.YteljihpheffjnaaDoorW.PrintWords Go.Proofs.YteljihpheffjnaaDoor.Base Go.Proofs.YteljihpheffjnaaDoor.Drum
set_option linter.unusedVariables false
set_option linter.unusedSimpArgs false
attribute [local go_sem] rdl_const rdl_func rdl_global rdl_nil rdl_cons
attribute [local irreducible] OpGives

/-- So many sectors any number of bytes needs. -/
def needI (z : Int) : Int := if z ≤ 51 then 1 else (needN z.toNat : Int)
set_option maxHeartbeats 4000000 in
theorem need_big (n : Nat) (hn : n ≤ 9223372036854775807) (w : World) : Calls Tryd.prog 16 #[.int .i64 (n : Int)] w fun e w' => e = .returned (.int .i64 (needN n : Int)) ∧ w' = w := by
  obtain ⟨m, hm⟩ : ∃ m : Nat, max (n : Int) 1 = (m : Int) ∧ m = max n 1 := ⟨max n 1, by omega, rfl⟩
  have h1 : wrap64 ((m : Int) - 1) = ((m - 1 : Nat) : Int) := w_sub (b := 1) (by omega) (by omega)
  have h2 : ((m - 1 : Nat) : Int).tdiv 51 = (((m - 1) / 51 : Nat) : Int) := rfl
  have h3 : wrap64 ((((m - 1) / 51 : Nat) : Int) + 1) = (((m - 1) / 51 + 1 : Nat) : Int) := by unfold wrap64; omega
  have h4 : max 1 (((m - 1) / 51 + 1 : Nat) : Int) = (needN n : Int) := by unfold needN; rw [← hm.2]; omega
  go_enter Tryd.func16, Tryd.ntmps16
  go_wp2
  go_ret
  refine ⟨congrArg (fun z => Ending.returned (Value.int .i64 z)) ?_, rfl⟩
  show max 1 ((((max n 1 : Nat) : Int) - 1) / 51 + 1) = (needN n : Int)
  unfold needN; omega
set_option maxHeartbeats 1000000 in
theorem rneed_big (n : Nat) (hn : n ≤ 9223372036854775807) (w : World) : Calls Tryd.prog 26 #[.int .i64 (n : Int)] w fun e w' => e = .returned (.int .i64 (needN n : Int)) ∧ w' = w := by
  by_cases h51 : n ≤ 51
  · have hd : decide (n ≤ 51) = true := decide_eq_true h51
    have hn1 : needN n = 1 := by unfold needN; omega
    rw [hn1]
    go_enter Tryd.func26, Tryd.ntmps26
    go_wp2
    go_ret
    exact ⟨rfl, rfl⟩
  · have hd : decide (n ≤ 51) = false := decide_eq_false h51
    have hn1 : (needN n : Int) = ((n : Int) - 1) / 51 + 1 := by unfold needN; omega
    rw [hn1]
    go_enter Tryd.func26, Tryd.ntmps26
    go_wp2
    go_ret
    exact ⟨rfl, rfl⟩
theorem need_int (z : Int) (hz : z ≤ 9223372036854775807) (w : World) : Calls Tryd.prog 16 #[.int .i64 z] w fun e w' => e = .returned (.int .i64 (needI z)) ∧ w' = w := by
  by_cases h0 : 0 ≤ z
  · obtain ⟨n, rfl⟩ : ∃ n : Nat, z = (n : Int) := ⟨z.toNat, by omega⟩
    have : needI (n : Int) = (needN n : Int) := by
      unfold needI
      split
      · have : needN n = 1 := by unfold needN; omega
        rw [this]; rfl
      · rw [Int.toNat_natCast]
    rw [this]; exact need_big n (by omega) w
  · have hm : max z 1 = 1 := by omega
    have h1 : needI z = 1 := by unfold needI; rw [if_pos (by omega)]
    rw [h1]
    clear h0 hz h1
    go_enter Tryd.func16, Tryd.ntmps16
    go_wp2
    go_ret
    exact ⟨rfl, rfl⟩
theorem rneed_int (z : Int) (hz : z ≤ 9223372036854775807) (w : World) : Calls Tryd.prog 26 #[.int .i64 z] w fun e w' => e = .returned (.int .i64 (needI z)) ∧ w' = w := by
  by_cases h0 : 0 ≤ z
  · obtain ⟨n, rfl⟩ : ∃ n : Nat, z = (n : Int) := ⟨z.toNat, by omega⟩
    have : needI (n : Int) = (needN n : Int) := by
      unfold needI
      split
      · have : needN n = 1 := by unfold needN; omega
        rw [this]; rfl
      · rw [Int.toNat_natCast]
    rw [this]; exact rneed_big n (by omega) w
  · have hm : z ≤ 51 := by omega
    have h1 : needI z = 1 := by unfold needI; rw [if_pos (by omega)]
    rw [h1]
    clear h0 hz h1
    go_enter Tryd.func26, Tryd.ntmps26
    go_wp2
    go_ret
    exact ⟨rfl, rfl⟩
end Go.Proofs.YteljihpheffjnaaDoor.Tape
/- TapePlays, walked. -/
namespace Go.Proofs.YteljihpheffjnaaDoor.Tape
open Go.RowKit Go.Proofs.YteljihpheffjnaaDoor.Ord Go.Proofs.YteljihpheffjnaaDoorW.PrintWords Go.Proofs.YteljihpheffjnaaDoor.Base Go.Proofs.YteljihpheffjnaaDoor.Drum
set_option linter.unusedVariables false
set_option linter.unusedSimpArgs false
attribute [local go_sem] rdl_const rdl_func rdl_global rdl_nil rdl_cons
attribute [local irreducible] OpGives

/-- While the calls are gone through. -/
def PlaysR (w : World) (N n b rb wb : Nat) (iv : Value) (wr : World) : Prop :=
  ∃ (k : Nat) (D : DS) (R : RS), iv = .int .i64 (k : Int) ∧ k ≤ n ∧ Sim D R ∧ Gd D k ∧ D.sure.length = N ∧ PW w.heap.size w wb b rb D R k wr
theorem rnd5 (k : Nat) : (k : Int).tmod 5 = (k : Int) % 5 := Int.tmod_eq_emod_of_nonneg (by omega)
set_option maxRecDepth 100000 in
set_option maxHeartbeats 16000000 in
theorem tapePlays_in (N n cap : Nat) (z : Int) (a : Option Addr) (acts : List ActV) (w : World) (hN : 0 < N ∧ N ≤ 40) (hz : z ≤ 9223372036854775807) (h : ActsIn w.heap.size w a n acts) (hf : fewB acts = true) :
    Calls Tryd.prog 5 #[.int .i64 (N : Int), .slice a n cap, .int .i64 z] w fun e w' => e = .returned (.bool true) ∧ NewMem w w' := by
  have hfew := few_at w.heap.size a n cap acts w h
  rw [hf] at hfew
  unfold fewB at hf
  rw [Bool.and_eq_true] at hf
  have hn : n ≤ 100 := by have := h.len; have := of_decide_eq_true hf.1; omega
  have hS := Sep.start w
  have HS := Lib.hid hS
  have HZ := Lib.hid hz
  have HA := Lib.hid h
  have HSM := Lib.hid hf.2
  have HN := Lib.hid hN
  have HFEW := Lib.hid hfew
  have hd1 : decide ((N : Int) < 1) = false := decide_eq_false (by omega)
  have hd1' : decide (N < 1) = false := decide_eq_false (by omega)
  have hd2' : decide (40 < N) = false := decide_eq_false (by omega)
  have hd2 : decide ((40 : Int) < (N : Int)) = false := decide_eq_false (by omega)
  clear hS h hN hf hfew hz
  go_enter Tryd.func5, Tryd.ntmps5
  go_wp2_with fail
  refine HFEW.out.mono ?_
  rintro e w' ⟨rfl, rfl⟩
  go_wp2_with fail
  refine (new_sep HS.out N HN.out.1 (by have := HN.out; omega)).mono ?_
  rintro e W1 ⟨v, rfl, b, t1, rfl, ht1, hS1⟩
  have HT1 := Lib.hid ht1
  have HS1 := Lib.hid hS1
  clear ht1 hS1
  go_wp2_with fail
  refine (rnew_sep HS1.out N HN.out.1 (by have := HN.out; omega)).mono ?_
  rintro e W2 ⟨v, rfl, rb, t2, rfl, ht2, hS2⟩
  have HT2 := Lib.hid ht2
  have hws := hS2.new (t := worldT W2.heap.size b rb (.pointer none) (.pointer none)) (NewMem.alloc _ _) (heap_alloc_last _ _) (fun k hk => by have : k = W2.heap.size := hk; omega)
  have hg0 : Gd (DS.zero N) 0 := by
    have hd := dw_of hws (t := t1) (by simp) HT1.out
    exact ⟨by simp only [DS.zero, List.length_replicate]; exact HN.out.2, Nat.zero_le _, hd.1⟩
  have HWS := Lib.hid hws
  have HG0 := Lib.hid hg0
  clear ht2 hS2 hws hg0
  go_wp2_with fail
  refine (wopen (k := 0) (w := w) (B := w.heap.size) (D := DS.zero N) (R := RS.zero N) ⟨t1, t2, _, _, [], HT1.out, HT2.out, .inl ⟨rfl, rfl, rfl⟩, HWS.out.perm (List.Perm.cons _ (List.Perm.swap _ _ _))⟩ (sim_zero N) HG0.out (Nat.zero_le _)).mono ?_
  rintro e W3 ⟨rfl, hP3⟩
  obtain ⟨wb, hwb⟩ : ∃ wb, wb = W2.heap.size := ⟨_, rfl⟩
  rw [← hwb] at hP3
  have HWB := Lib.hid hwb
  have HP3 := Lib.hid hP3
  clear hP3 hwb
  go_wp2_with fail
  rw [← HWB.out]
  go_loopw [12] (fun iv wr => PlaysR w N n b rb wb iv wr) (fun i _ => n - (intOf i).toNat)
  case atStart => exact ⟨0, DS.zero N, RS.zero N, rfl, Nat.zero_le _, sim_zero N, HG0.out, by simp only [DS.zero, List.length_replicate], HP3.out⟩
  case round =>
    obtain ⟨k, D, R, rfl, hk, hsim, hg, hlen, hP⟩ := hrel
    have hm1 : ((k : Int) + 1).toNat = k + 1 := by omega
    have HSIM := Lib.hid hsim
    have HG := Lib.hid hg
    have HLEN := Lib.hid hlen
    have HP := Lib.hid hP
    clear hsim hg hlen hP hd1 hd1' hd2' hd2
    by_cases hlt : k < n
    · obtain ⟨ad, rfl, hold, hcs⟩ := HA.out.cells (by omega)
      obtain ⟨v, hv⟩ : ∃ v, acts[k]? = some v := ⟨_, List.getElem?_eq_getElem (by rw [HA.out.len]; exact hlt)⟩
      have hvm := List.mem_of_getElem? hv
      have hok := (HA.out.all v hvm).ok (List.all_eq_true.1 HSM.out v hvm)
      have hsm : v.s.size ≤ 600 := by
        have := List.all_eq_true.1 HSM.out v hvm
        unfold ActV.small at this
        simp only [Bool.and_eq_true, decide_eq_true_eq] at this
        exact this.1
      have hbl : Below w.heap.size w wr := by
        obtain ⟨td, tr, tv, xv, tl, _, _, _, hs⟩ := HP.out
        exact hs.below
      obtain ⟨c0, c1, c2, c3⟩ := hcs k v hv
      have hbk : ∀ j, (ad.add j).block < w.heap.size := fun j => by rw [Drum.add_block]; exact hold
      have c0 := (hbl.cell (p := ad.add (k * 4)) (hbk _)).trans c0
      have c1 := (hbl.cell (p := ad.add (k * 4 + 1)) (hbk _)).trans c1
      have c2 := (hbl.cell (p := ad.add (k * 4 + 2)) (hbk _)).trans c2
      have c3 := (hbl.cell (p := ad.add (k * 4 + 3)) (hbk _)).trans c3
      rw [add_next] at c1 c2 c3
      have hst := wstep HP.out HSIM.out HG.out (by omega) v hok hsm
      rw [HLEN.out] at hst
      have HST := Lib.hid hst
      have hdk : decide (k < n) = true := decide_eq_true hlt
      clear hcs hv hvm hok hsm hbl hbk hst
      by_cases h5 : (k : Int) % 5 = 4
      · have h5' : ((k : Int).tmod 5 == 4) = true := by rw [rnd5]; simpa using h5
        go_wp2_with fail
        refine HST.out.mono ?_
        rintro e W4 ⟨rfl, D', R', hs', hg', hl', hp'⟩
        have HAL := Lib.hid (walike hp' hs' hg' (by omega))
        have HS' := Lib.hid hs'
        have HG' := Lib.hid hg'
        have HL' := Lib.hid hl'
        clear hs' hg' hl' hp'
        go_wp2_with fail
        refine HAL.out.mono ?_
        rintro e W5 ⟨rfl, hp5⟩
        have HP5 := Lib.hid hp5
        clear hp5
        go_wp2_with fail
        go_roundw
        case rel => exact ⟨k + 1, D', R', by go_num, hlt, HS'.out, HG'.out, HL'.out, HP5.out⟩
        case measure =>
          have hm : n - (k + 1) < n - k := by omega
          simp only [intOf, Int.toNat_natCast, hm1]
          exact hm
      · have h5' : ((k : Int).tmod 5 == 4) = false := by rw [rnd5]; simpa using h5
        have h5'' : ((k : Int) % 5 == 4) = false := by simpa using h5
        go_wp2_with fail
        refine HST.out.mono ?_
        rintro e W4 ⟨rfl, D', R', hs', hg', hl', hp'⟩
        have HS' := Lib.hid hs'
        have HG' := Lib.hid hg'
        have HL' := Lib.hid hl'
        have HP5 := Lib.hid hp'
        clear hs' hg' hl' hp'
        go_wp2_with fail
        go_roundw
        case rel => exact ⟨k + 1, D', R', by go_num, hlt, HS'.out, HG'.out, HL'.out, HP5.out⟩
        case measure =>
          have hm : n - (k + 1) < n - k := by omega
          simp only [intOf, Int.toNat_natCast, hm1]
          exact hm
    · obtain ⟨td, tr, tv, xv, tl, htd, htr, htp, hsep⟩ := HP.out
      obtain ⟨c0, c1, c2, c3⟩ := WlAt.cells (sep_head hsep)
      have hk100 : k ≤ 100 := by omega
      have hll : D.loose.length ≤ 1000000 := by have := HG.out.loose; omega
      have hscl : (DS.scan D).1.length ≤ 1000000000 := by
        obtain ⟨q, h1, _⟩ := steps_scan (D := D) D.sure.length [] 0 1 (Nat.zero_le _) (Nat.le_add_left _ _)
        have hle := h1.le (Nat.zero_le _)
        rw [List.length_nil] at hle
        have := HG.out.few
        show (DS.scanN D D.sure.length 0 1 []).1.length ≤ _; omega
      have hfin : ∀ (W5 : World) (l5 : List Thing), Sep w.heap.size w W5 (worldT wb b rb tv xv :: td :: tr :: (tl ++ l5)) → Calls Tryd.prog 24 #[.pointer (some ⟨wb, 0, none⟩)] W5 fun e W' => e = .returned (.bool true) ∧ Sep w.heap.size w W' (worldT wb b rb tv xv :: td :: tr :: (tl ++ l5)) := fun W5 l5 h5 =>
        walike_sep htd htr htp h5 HSIM.out HG.out hk100
      have HFIN := Lib.hid hfin
      have HTR := Lib.hid htr
      clear hfin htr htp hk100 hm1
      cases hdn : D.down with
      | true =>
        have HSEP := Lib.hid hsep
        have hs1 := scan_down (hsep.perm (List.Perm.swap _ _ _)) htd hdn
        have hs2 := rscan_down (D := D) (hsep.perm (List.perm_middle (l₁ := [_, _]))) HTR.out HSIM.out hdn
        have HS1 := Lib.hid hs1
        have HS2 := Lib.hid hs2
        clear hsep hs1 hs2 htd hll hscl hdn
        go_wp2_with fail
        refine HS1.out.mono ?_
        rintro e w' ⟨rfl, rfl⟩
        go_wp2_with fail
        refine HS2.out.mono ?_
        rintro e w' ⟨rfl, rfl⟩
        go_wp2_with fail
        refine (HFIN.out w' [] (by rw [List.append_nil]; exact HSEP.out)).mono ?_
        rintro e W7 ⟨rfl, hs7⟩
        have HS7 := Lib.hid hs7
        clear hs7
        go_wp2_with fail
        refine (same_at none none 0 0 0 0 [] [] _ (strs_none _) (strs_none _)).mono ?_
        rintro e w'' ⟨rfl, m, rfl⟩
        go_wp2_with fail
        refine (need_int z HZ.out _).mono ?_
        rintro e w3 ⟨rfl, rfl⟩
        go_wp2_with fail
        refine (rneed_int z HZ.out _).mono ?_
        rintro e w4 ⟨rfl, rfl⟩
        go_wp2_with fail
        refine (lives_any _).mono ?_
        rintro e W9 ⟨rfl, hn9⟩
        have HS9 := Lib.hid ((HS7.out.drewN m).grown hn9)
        clear hn9
        go_wp2_with fail
        go_ret
        exact ⟨rfl, HS9.out.below⟩
      | false =>
        have hs1 := scan_sep (hsep.perm (List.Perm.swap _ _ _)) htd hdn hll
        have HS1 := Lib.hid hs1
        have HDN := Lib.hid hdn
        have HTD := Lib.hid htd
        have HSCL := Lib.hid hscl
        clear hsep hs1 htd hll hscl hdn
        go_wp2_with fail
        refine HS1.out.mono ?_
        rintro e W5 ⟨va, rfl, hs5⟩
        obtain ⟨na, nc, rfl⟩ := texts_slice (sep_head hs5)
        obtain ⟨c0, c1, c2, c3⟩ := WlAt.cells (hs5.all (worldT wb b rb tv xv) (by simp)).1
        have hs2 := rscan_sep (hs5.perm (List.perm_middle (l₁ := [_, _, _]))) HTR.out HSIM.out HG.out.wide HDN.out
        have HS2 := Lib.hid hs2
        clear hs5 hs2 HS1
        go_wp2_with fail
        refine HS2.out.mono ?_
        rintro e W6 ⟨vb, rfl, hs6⟩
        obtain ⟨ya, yc, rfl⟩ := texts_slice (sep_head hs6)
        have hp : ∀ (vb tr va td wT : Thing), (vb :: tr :: va :: td :: wT :: tl).Perm (wT :: td :: tr :: (tl ++ [vb, va])) := fun vb tr va td wT => by
          have h1 : ([vb, tr, va, td, wT]).Perm [wT, td, tr, vb, va] := (List.reverse_perm [vb, tr, va, td, wT]).symm.trans (List.Perm.cons _ (List.Perm.cons _ (List.perm_append_comm (l₁ := [va]) (l₂ := [tr, vb]))))
          exact (h1.append_right tl).trans (List.Perm.append_left [wT, td, tr] (List.perm_append_comm (l₁ := [vb, va]) (l₂ := tl)))
        have hal := HFIN.out W6 _ (hs6.perm (hp _ _ _ _ _))
        have HAL := Lib.hid hal
        clear hs6 hal hp HS2
        go_wp2_with fail
        refine HAL.out.mono ?_
        rintro e W7 ⟨rfl, hs7⟩
        have hx1 := strs_of (hs7.all (textsT (.slice na (DS.scan D).1.length nc) (DS.scan D).1) (by simp)).1 HSCL.out
        have hx2 := strs_of (hs7.all (textsT (.slice ya (DS.scan D).1.length yc) (DS.scan D).1) (by simp)).1 HSCL.out
        have hsame := same_at na ya _ _ nc yc (DS.scan D).1 (DS.scan D).1 _ hx1 hx2
        rw [decide_eq_true rfl] at hsame
        have HSAME := Lib.hid hsame
        have HS7 := Lib.hid hs7
        clear hs7 hx1 hx2 hsame HAL
        go_wp2_with fail
        refine HSAME.out.mono ?_
        rintro e w'' ⟨rfl, m, rfl⟩
        go_wp2_with fail
        refine (need_int z HZ.out _).mono ?_
        rintro e w3 ⟨rfl, rfl⟩
        go_wp2_with fail
        refine (rneed_int z HZ.out _).mono ?_
        rintro e w4 ⟨rfl, rfl⟩
        go_wp2_with fail
        refine (lives_any _).mono ?_
        rintro e W9 ⟨rfl, hn9⟩
        have HS9 := Lib.hid ((HS7.out.drewN m).grown hn9)
        clear hn9
        go_wp2_with fail
        go_ret
        exact ⟨rfl, HS9.out.below⟩
end Go.Proofs.YteljihpheffjnaaDoor.Tape
/- TapePlays, walked: the guards. -/
namespace Go.Proofs.YteljihpheffjnaaDoor.Tape
open Go.RowKit Go.Proofs.YteljihpheffjnaaDoor.Ord Go.Proofs.YteljihpheffjnaaDoorW.PrintWords Go.Proofs.YteljihpheffjnaaDoor.Base Go.Proofs.YteljihpheffjnaaDoor.Drum
set_option linter.unusedVariables false
set_option linter.unusedSimpArgs false
attribute [local irreducible] OpGives

set_option maxRecDepth 100000 in
set_option maxHeartbeats 8000000 in
theorem tapePlays_walk (z : Int) (y : Int) (hy : y ≤ 9223372036854775807) (n cap : Nat) (a : Option Addr) (acts : List ActV) (w : World) (h : ActsIn w.heap.size w a n acts) :
    Calls Tryd.prog 5 #[.int .i64 z, .slice a n cap, .int .i64 y] w fun e w' => e = .returned (.bool true) ∧ NewMem w w' := by
  have hfew := few_at w.heap.size a n cap acts w h
  cases hf : fewB acts with
  | false =>
    rw [hf] at hfew
    have hl := Lib.hid (lives_any w)
    have HFEW := Lib.hid hfew
    clear hfew h
    go_enter Tryd.func5, Tryd.ntmps5
    go_wp2_with fail
    refine HFEW.out.mono ?_
    rintro e w' ⟨rfl, rfl⟩
    go_wp2_with fail
    refine hl.out.mono ?_
    rintro e w1 ⟨rfl, hn⟩
    have HN := Lib.hid hn
    clear hn
    go_wp2
    go_ret
    exact ⟨rfl, HN.out⟩
  | true =>
    rw [hf] at hfew
    by_cases hz : z < 1
    · have hd : decide (z < 1) = true := decide_eq_true hz
      have hl := Lib.hid (lives_any w)
      have HFEW := Lib.hid hfew
      clear hfew h
      go_enter Tryd.func5, Tryd.ntmps5
      go_wp2_with fail
      refine HFEW.out.mono ?_
      rintro e w' ⟨rfl, rfl⟩
      go_wp2_with fail
      refine hl.out.mono ?_
      rintro e w1 ⟨rfl, hn⟩
      have HN := Lib.hid hn
      clear hn
      go_wp2
      go_ret
      exact ⟨rfl, HN.out⟩
    · by_cases hz2 : 40 < z
      · have hd : decide (z < 1) = false := decide_eq_false hz
        have hd2 : decide (40 < z) = true := decide_eq_true hz2
        have hl := Lib.hid (lives_any w)
        have HFEW := Lib.hid hfew
        clear hfew h
        go_enter Tryd.func5, Tryd.ntmps5
        go_wp2_with fail
        refine HFEW.out.mono ?_
        rintro e w' ⟨rfl, rfl⟩
        go_wp2_with fail
        refine hl.out.mono ?_
        rintro e w1 ⟨rfl, hn⟩
        have HN := Lib.hid hn
        clear hn
        go_wp2
        go_ret
        exact ⟨rfl, HN.out⟩
      · obtain ⟨N, rfl⟩ : ∃ N : Nat, z = N := ⟨z.toNat, by omega⟩
        exact tapePlays_in N n cap y a acts w (by omega) hy h hf
end Go.Proofs.YteljihpheffjnaaDoor.Tape
