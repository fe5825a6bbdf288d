/- Texts of one proof, joined: Ka, Kb, Kc, Kd, Ke, Kf, Ja. -/
import Derived.Test.YteljihpheffjnaaDoorZGa
import Derived.Test.YteljihpheffjnaaDoorZGc
import Derived.Test.YteljihpheffjnaaDoorZF
import Derived.Test.YteljihpheffjnaaDoorZH
import Derived.Test.YteljihpheffjnaaDoorZE
import Derived.Deep.Slices
import Derived.Deep.Fields
import Derived.ChangeSame
set_option linter.unusedSimpArgs false
set_option linter.unusedVariables false
/- The document's numbers, weights, bytes, need: walked. -/
namespace Go.Proofs.YteljihpheffjnaaDoor.Tape
open Go.RowKit Go.Proofs.YteljihpheffjnaaDoor.Ord Go.Proofs.YteljihpheffjnaaDoorW.PrintWords Go.Proofs.YteljihpheffjnaaDoor.Base Go.Proofs.YteljihpheffjnaaDoor.Drum
set_option linter.unusedVariables false
set_option linter.unusedSimpArgs false
attribute [local go_sem] rdl_const rdl_func rdl_global rdl_nil rdl_cons
attribute [local irreducible] OpGives

set_option maxHeartbeats 1000000 in
theorem rnumber_any (s : ByteArray) (hs : s.size ≤ 6) (w : World) :
    Calls Tryd.prog 80 #[.string s] w fun e w' => e = .returned (.int .i64 (numL s.data.toList : Int)) ∧ w' = w := by
  go_enter Tryd.func80, Tryd.ntmps80
  go_wp2
  go_loop [3, 4] (fun n i => ∃ k : Nat, k ≤ s.size ∧ i = .int .i64 k ∧ n = .int .i64 (numL (s.data.toList.take k) : Int)) (fun _ i => s.size - (intOf i).toNat)
  case atStart => exact ⟨0, Nat.zero_le _, rfl, rfl⟩
  case round =>
    obtain ⟨k, hk, rfl, rfl⟩ := hrel
    by_cases hlt : k < s.size
    · have hl := numL_lt (s.data.toList.take k)
      have hn : numL (s.data.toList.take k) < 281474976710656 := by
        refine Nat.lt_of_lt_of_le hl ?_
        exact Nat.le_trans (Nat.pow_le_pow_right (by decide) (show (s.data.toList.take k).length ≤ 6 by rw [List.length_take]; omega)) (by decide)
      have HS : Hid (numL (s.data.toList.take (k + 1)) = numL (s.data.toList.take k) * 256 + s[k].toNat) := by rw [take_byte s k hlt, numL_snoc]; exact rfl
      generalize hm : numL (s.data.toList.take k) = m at *
      have hb : s[k].toNat < 256 := s[k].toNat_lt
      clear hm hl
      go_wp2
      go_round
      case rel => exact ⟨k + 1, by omega, by go_num, by rw [HS.out]; go_num⟩
      case measure => simp [intOf]; omega
    · go_wp2
      go_ret
      exact ⟨by rw [List.take_of_length_le (by simp; omega)]; rfl, rfl⟩
theorem weigh_mod (a b : Nat) : (a % 65521 + b) % 65521 = (a + b) % 65521 := by omega
set_option maxHeartbeats 1000000 in
theorem rweight_any (s : ByteArray) (hs : s.size ≤ 1000) (w : World) :
    Calls Tryd.prog 78 #[.string s] w fun e w' => e = .returned (.int .i64 (weighL s.data.toList : Int)) ∧ w' = w := by
  go_enter Tryd.func78, Tryd.ntmps78
  go_wp2
  go_loop [3, 4] (fun n i => ∃ k : Nat, k ≤ s.size ∧ i = .int .i64 k ∧ n = .int .i64 (weighL (s.data.toList.take k) : Int)) (fun _ i => s.size - (intOf i).toNat)
  case atStart => exact ⟨0, Nat.zero_le _, rfl, rfl⟩
  case round =>
    obtain ⟨k, hk, rfl, rfl⟩ := hrel
    by_cases hlt : k < s.size
    · have HS : Hid (weighL (s.data.toList.take (k + 1)) = (weighL (s.data.toList.take k) + s[k].toNat * (k + 1)) % 65521) := by
        unfold weighL
        rw [take_byte s k hlt, sumFrom_append, List.length_take, Nat.zero_add, Nat.min_eq_left (by simp; omega), weigh_mod, Nat.mul_comm s[k].toNat]
        rfl
      have hw := weighL_lt (s.data.toList.take k)
      generalize hm : weighL (s.data.toList.take k) = m at *
      have hb : s[k].toNat < 256 := s[k].toNat_lt
      have hmul : s[k].toNat * (k + 1) ≤ 255 * 1000 := Nat.mul_le_mul (by omega) (by omega)
      obtain ⟨pr, hpr⟩ : ∃ pr, pr = s[k].toNat * (k + 1) := ⟨_, rfl⟩
      have hwm : wrap64 ((s[k].toNat : Int) * ((k : Int) + 1)) = (pr : Int) := by
        rw [show (s[k].toNat : Int) * ((k : Int) + 1) = (pr : Int) by rw [hpr]; simp]
        exact w_id (by omega)
      rw [← hpr] at HS hmul
      clear hm
      have HV : Hid ((wrap64 ((m : Int) + (s[k].toNat : Int) * ((k : Int) + 1))).tmod 65521 = (((m + pr) % 65521 : Nat) : Int)) := by
        rw [show (s[k].toNat : Int) * ((k : Int) + 1) = (pr : Int) by rw [hpr]; simp, w_add (by omega)]
        rfl
      go_wp2
      rw [HV.out]
      go_round
      case rel => exact ⟨k + 1, by omega, by go_num, by rw [HS.out]⟩
      case measure => simp [intOf]; omega
    · go_wp2
      go_ret
      exact ⟨by rw [List.take_of_length_le (by simp; omega)]; rfl, rfl⟩
/-- A byte's block, made anew. -/
def byteF (b : UInt8) : Fact NewMem := ⟨fun v W => ∃ k, v = .slice (some ⟨k, 0, none⟩) 1 1 ∧ W.heap[k]? = some (.cells #[.int .u8 (b.toNat : Int)] 5 (0, 0)), fun v W W' ⟨k, e, hc⟩ hn => ⟨k, e, (hn.block _ (Array.getElem?_eq_some_iff.1 hc).1).trans hc⟩⟩
theorem str_app (a b : List UInt8) : (⟨a.toArray⟩ : ByteArray) ++ ⟨b.toArray⟩ = ⟨(a ++ b).toArray⟩ := by
  apply ByteArray.ext
  rw [ByteArray.data_append]; simp
set_option maxHeartbeats 4000000 in
theorem rbytes_any : ∀ (k n : Nat), n < 9223372036854775808 → k ≤ 100 → ∀ w : World, Calls Tryd.prog 77 #[.int .i64 (n : Int), .int .i64 (k : Int)] w fun e w' => e = .returned (.string ⟨(beL k n).toArray⟩) ∧ NewMem w w'
  | 0, n, hn, hk, w => by
    go_enter Tryd.func77, Tryd.ntmps77
    go_wp2
    go_ret
    exact ⟨rfl, NewMem.refl _⟩
  | k + 1, n, hn, hk, w => by
    have ih : ∀ W, Calls Tryd.prog 77 #[.int .i64 ((n / 256 : Nat) : Int), .int .i64 (k : Int)] W fun e w' => e = .returned (.string ⟨(beL k (n / 256)).toArray⟩) ∧ NewMem W w' := fun W => rbytes_any k (n / 256) (by omega) (by omega) W
    have IH := Lib.hid ih
    have hkb : (((k + 1 : Nat) : Int) == 0) = false := beq_eq_false_iff_ne.2 (by omega)
    obtain ⟨j, hj⟩ : ∃ j : Nat, j = k + 1 := ⟨_, rfl⟩
    rw [← hj] at hkb ⊢
    have hjb : (j == 0) = false := beq_eq_false_iff_ne.2 (by omega)
    obtain ⟨b, hb⟩ : ∃ b : UInt8, b = UInt8.ofNat (n % 256) := ⟨_, rfl⟩
    have hbe : beL j n = beL k (n / 256) ++ [b] := by rw [hj, beL, hb]
    have hbv : IntKind.u8.wrap ((n : Int).tmod 256) = (b.toNat : Int) := by
      rw [IntKind.wrap_u8, hb, Int.tmod_eq_emod_of_nonneg (by omega)]; simp
    rw [hbe]
    have hq : IntKind.i64.wrap ((n : Int) / 256) = (n : Int) / 256 := by rw [IntKind.wrap_i64]; omega
    have hq2 : IntKind.i64.wrap ((j : Int) - 1) = (k : Int) := by rw [IntKind.wrap_i64]; omega
    have HJ := Lib.hid hj
    clear ih hb hbe hj
    go_enter Tryd.func77, Tryd.ntmps77
    go_wp2_with fail
    refine' wp_region_facts (S := (NewMem w)) (R := NewMem) [eqF _ _, eqF _ (.int .i64 ((n / 256 : Nat) : Int)), eqF _ _, eqF _ (.int .i64 (k : Int)), eqF _ (.string ⟨(beL k (n / 256)).toArray⟩), eqF _ _, eqF _ _, eqF _ (.int .u8 (b.toNat : Int)), byteF b, eqF _ (.string ⟨[b].toArray⟩), eqF _ (.string ⟨(beL k (n / 256) ++ [b]).toArray⟩)] (by kernel_rfl) (by kernel_rfl) ?hS ?h0 (Ord.steps_cons ?s0 (Ord.steps_cons ?s1 (Ord.steps_cons ?s2 (Ord.steps_cons ?s3 (Ord.steps_cons ?s4 (Ord.steps_cons ?s5 (Ord.steps_cons ?s6 (Ord.steps_cons ?s7 (Ord.steps_cons ?s8 (Ord.steps_cons ?s9 (Ord.steps_cons ?s10 (Ord.steps_nil)))))))))))) ?fin
    case s0 =>
      intro g W hSW hd
      try simp only [Nat.zero_add, Nat.reduceAdd] at hd ⊢
      with_reducible refine OpGives.pre_reads [] 18 ?_ ?_ ?_
      · rfl
      · kernel_rfl
      simp only [List.map_cons, List.map_nil]
      refine OpGives.val (w' := W) ?_ ⟨NewMem.refl _, rfl⟩
      go_simp
      try with_reducible rfl
    case s1 =>
      intro g W hSW hd
      try simp only [Nat.zero_add, Nat.reduceAdd] at hd ⊢
      have h0 : g 0 = _ := hd 0 (by decide) (by kernel_rfl)
      with_reducible refine OpGives.pre_reads [(7, 0)] 18 ?_ ?_ ?_
      · rfl
      · kernel_rfl
      simp only [List.map_cons, List.map_nil]
      refine OpGives.val (w' := W) ?_ ⟨NewMem.refl _, rfl⟩
      go_simp
      try with_reducible rfl
    case s2 =>
      intro g W hSW hd
      try simp only [Nat.zero_add, Nat.reduceAdd] at hd ⊢
      with_reducible refine OpGives.pre_reads [] 18 ?_ ?_ ?_
      · rfl
      · kernel_rfl
      simp only [List.map_cons, List.map_nil]
      refine OpGives.val (w' := W) ?_ ⟨NewMem.refl _, rfl⟩
      go_simp
      try with_reducible rfl
    case s3 =>
      intro g W hSW hd
      try simp only [Nat.zero_add, Nat.reduceAdd] at hd ⊢
      have h2 : g 2 = _ := hd 2 (by decide) (by kernel_rfl)
      with_reducible refine OpGives.pre_reads [(9, 2)] 18 ?_ ?_ ?_
      · rfl
      · kernel_rfl
      simp only [List.map_cons, List.map_nil]
      refine OpGives.val (w' := W) ?_ ⟨NewMem.refl _, rfl⟩
      go_simp
      try with_reducible rfl
    case s4 =>
      intro g W hSW hd
      try simp only [Nat.zero_add, Nat.reduceAdd] at hd ⊢
      have h1 : g 1 = _ := hd 1 (by decide) (by kernel_rfl)
      have h3 : g 3 = _ := hd 3 (by decide) (by kernel_rfl)
      with_reducible refine OpGives.pre_reads [(8, 1), (10, 3)] 18 ?_ ?_ ?_
      · rfl
      · kernel_rfl
      simp only [List.map_cons, List.map_nil]
      refine OpGives.call (f := 77) (args := #[.int .i64 ((n / 256 : Nat) : Int), .int .i64 (k : Int)]) (w' := W) (by go_simp) ((IH.out W).mono fun e w' ⟨he, hn⟩ => ⟨_, he, hn, rfl⟩)
    case s5 =>
      intro g W hSW hd
      try simp only [Nat.zero_add, Nat.reduceAdd] at hd ⊢
      with_reducible refine OpGives.pre_reads [] 18 ?_ ?_ ?_
      · rfl
      · kernel_rfl
      simp only [List.map_cons, List.map_nil]
      refine OpGives.val (w' := W) ?_ ⟨NewMem.refl _, rfl⟩
      go_simp
      try with_reducible rfl
    case s6 =>
      intro g W hSW hd
      try simp only [Nat.zero_add, Nat.reduceAdd] at hd ⊢
      have h5 : g 5 = _ := hd 5 (by decide) (by kernel_rfl)
      with_reducible refine OpGives.pre_reads [(12, 5)] 18 ?_ ?_ ?_
      · rfl
      · kernel_rfl
      simp only [List.map_cons, List.map_nil]
      refine OpGives.val (w' := W) ?_ ⟨NewMem.refl _, rfl⟩
      go_simp
      try with_reducible rfl
    case s7 =>
      intro g W hSW hd
      try simp only [Nat.zero_add, Nat.reduceAdd] at hd ⊢
      have h6 : g 6 = _ := hd 6 (by decide) (by kernel_rfl)
      with_reducible refine OpGives.pre_reads [(13, 6)] 18 ?_ ?_ ?_
      · rfl
      · kernel_rfl
      simp only [List.map_cons, List.map_nil]
      refine OpGives.val (w' := W) ?_ ⟨NewMem.refl _, rfl⟩
      go_simp
      try with_reducible rfl
    case s8 =>
      intro g W hSW hd
      try simp only [Nat.zero_add, Nat.reduceAdd] at hd ⊢
      have h7 : g 7 = _ := hd 7 (by decide) (by kernel_rfl)
      with_reducible refine OpGives.pre_reads [(14, 7)] 18 ?_ ?_ ?_
      · rfl
      · kernel_rfl
      simp only [List.map_cons, List.map_nil]
      refine OpGives.val (v := .slice (some ⟨W.heap.size, 0, none⟩) 1 1) (w' := W.alloc (.cells #[.int .u8 (b.toNat : Int)] 5)) ?_ ⟨NewMem.alloc _ _, W.heap.size, rfl, heap_alloc_last _ _⟩; go_simp
    case s9 =>
      intro g W hSW hd
      try simp only [Nat.zero_add, Nat.reduceAdd] at hd ⊢
      have h8 := hd 8 (by decide) (by kernel_rfl)
      change (byteF b).p (g 8) W at h8
      with_reducible refine OpGives.pre_reads [(15, 8)] 18 ?_ ?_ ?_
      · rfl
      · kernel_rfl
      simp only [List.map_cons, List.map_nil]
      obtain ⟨kb, e8, hcell⟩ := h8; rw [e8]; have hown : W.ownsRow 0 5 1 (.slice (some ⟨kb, 0, none⟩) 1 1) 1 (nums .u8 (ints [b])) := ⟨rfl, .inr ⟨kb, 1, _, rfl, Nat.zero_le _, hcell, Nat.le_refl _, by decide, rfl, rfl⟩⟩; have hcv := own_string (P := Tryd.prog) Tryd.underlying80 Tryd.underlying5 Tryd.underlying9 hown; rw [str_ints] at hcv; refine OpGives.val (w' := W) ?_ ⟨NewMem.refl _, rfl⟩; go_simp
    case s10 =>
      intro g W hSW hd
      try simp only [Nat.zero_add, Nat.reduceAdd] at hd ⊢
      have h4 : g 4 = _ := hd 4 (by decide) (by kernel_rfl)
      have h9 : g 9 = _ := hd 9 (by decide) (by kernel_rfl)
      with_reducible refine OpGives.pre_reads [(11, 4), (16, 9)] 18 ?_ ?_ ?_
      · rfl
      · kernel_rfl
      simp only [List.map_cons, List.map_nil]
      refine OpGives.val (w' := W) ?_ ⟨NewMem.refl _, rfl⟩; go_simp; rw [if_neg (by rw [beL_len]; omega), str_app]
    case hS => exact fun a c h k => NewMem.trans h k
    case h0 => exact below_drewN' (n := 1) (Below.refl _ _)
    case fin =>
      intro v W hSW hf
      have h10 : v 10 = _ := hf 10 (Nat.lt_of_lt_of_eq (by decide : 10 < 11) rfl)
      have HSW := Lib.hid hSW
      clear hf hSW
      generalize hF : Ord.pre _ _ v _ = F
      rw [Ord.pre_lit [some 7, some 8, some 9, some 10, some 11, some 12, some 13, some 14, some 15, some 16, some 17]
        (by kernel_rfl)] at hF
      simp only [Ord.puts, Nat.zero_add, Nat.reduceAdd] at hF
      subst hF
      rw [h10]
      clear h10
      refine any_one (i := 11) (by kernel_rfl) (wpOp_value (v := .string ⟨(beL k (n / 256) ++ [b]).toArray⟩) (w' := W) rfl rfl (by go_simp) ?_)
      refine wpAny_done (by kernel_rfl) ?_ _
      try simp only [List.getElem_toArray, List.getElem_cons_succ, List.getElem_cons_zero]
      go_frame
      go_wp2_with fail
      go_ret
      exact ⟨rfl, HSW.out⟩
set_option maxHeartbeats 1000000 in
theorem rneed_any (n : Nat) (hn : n ≤ 1000000000) (w : World) : Calls Tryd.prog 26 #[.int .i64 (n : Int)] w fun e w' => e = .returned (.int .i64 (needN n : Int)) ∧ w' = w := by
  by_cases h51 : n ≤ 51
  · have hd : decide (n ≤ 51) = true := decide_eq_true h51
    have hn1 : needN n = 1 := by unfold needN; omega
    rw [hn1]
    go_enter Tryd.func26, Tryd.ntmps26
    go_wp2
    go_ret
    exact ⟨rfl, rfl⟩
  · have hd : decide (n ≤ 51) = false := decide_eq_false h51
    have hn1 : (needN n : Int) = ((n : Int) - 1) / 51 + 1 := by unfold needN; omega
    rw [hn1]
    go_enter Tryd.func26, Tryd.ntmps26
    go_wp2
    go_ret
    exact ⟨rfl, rfl⟩
end Go.Proofs.YteljihpheffjnaaDoor.Tape
/- The document's Says, walked. -/
namespace Go.Proofs.YteljihpheffjnaaDoor.Tape
open Go.RowKit Go.Proofs.YteljihpheffjnaaDoor.Ord Go.Proofs.YteljihpheffjnaaDoorW.PrintWords Go.Proofs.YteljihpheffjnaaDoor.Base Go.Proofs.YteljihpheffjnaaDoor.Drum
set_option linter.unusedVariables false
set_option linter.unusedSimpArgs false
attribute [local irreducible] OpGives
attribute [local go_sem] rdl_const rdl_func rdl_global rdl_nil rdl_cons

def zSecR : Obj := .cells #[.int .i64 0, .int .i64 0, .int .i64 0, .bool false, .string (⟨#[]⟩ : ByteArray)] 111
theorem results_rsays (tmps : Array Value) (W : World) (g : Nat) (a0 a1 a2 a3 a4 b : Value) (h2 : tmps.getD 2 undef = .pointer (some ⟨g, 0, none⟩)) (h3 : tmps.getD 3 undef = b) (hg : W.heap[g]? = some (.cells #[a0, a1, a2, a3, a4] 111 (0, 0))) :
    (results Tryd.f71 tmps).run Tryd.prog W = .ok (.tuple #[.agg #[a0, a1, a2, a3, a4], b]) W := by
  have h2' : tmps[2]?.getD undef = .pointer (some ⟨g, 0, none⟩) := by simpa using h2
  have h3' : tmps[3]?.getD undef = b := by simpa using h3
  have k0 : W.cell? ⟨g, 0, none⟩ = some a0 := by rw [Lib.cell_of_heap hg]; rfl
  have k1 : W.cell? ⟨g, 1, none⟩ = some a1 := by rw [Lib.cell_of_heap hg]; rfl
  have k2 : W.cell? ⟨g, 2, none⟩ = some a2 := by rw [Lib.cell_of_heap hg]; rfl
  have k3 : W.cell? ⟨g, 3, none⟩ = some a3 := by rw [Lib.cell_of_heap hg]; rfl
  have k4 : W.cell? ⟨g, 4, none⟩ = some a4 := by rw [Lib.cell_of_heap hg]; rfl
  simp [results, Tryd.results71, h2', h3', asAddr, k0, k1, k2, k3, k4, go_sem]
theorem rnumber_cut (s : ByteArray) (hs : s.size = 64) (a b : Nat) (hab : b ≤ a + 6) (w : World) :
    Calls Tryd.prog 80 #[.string (s.extract a b)] w fun e w' => e = .returned (.int .i64 (numL ((s.data.toList.drop a).take (b - a)) : Int)) ∧ w' = w := by
  have h := rnumber_any (s.extract a b) (by rw [Lib.size_eq, cut_list, List.length_take]; omega) w
  rw [cut_list] at h
  exact h
/-- The sector is bad by its numbers. -/
def badN (L c n wt nm : Nat) : Prop := (L = 0 ∨ 51 < n ∨ (c < 128 ∧ n < 51)) ∨ wt ≠ nm
instance (L c n wt nm : Nat) : Decidable (badN L c n wt nm) := by unfold badN; infer_instance
/-- From j on, the padding is zero. -/
def padZ (ll : List UInt8) (n j : Nat) : Prop := ∀ i, n ≤ i → i < j → ll.getD (11 + i) 0 = 0
theorem padZ_any (ll : List UInt8) (n : Nat) (hl : ll.length = 64) (hn : n ≤ 51) : (((ll.take 62).drop (11 + n)).any fun b => b != 0) = true ↔ ¬ padZ ll n 51 := by
  rw [List.any_eq_true]
  constructor
  · rintro ⟨b, hb, hb0⟩ hp
    obtain ⟨i, hi⟩ := List.getElem?_of_mem hb
    rw [List.getElem?_drop, List.getElem?_take] at hi
    split at hi
    · have := hp (n + i) (by omega) (by omega)
      rw [List.getD_eq_getElem?_getD, show 11 + (n + i) = 11 + n + i by omega, hi] at this
      simp at this hb0; exact hb0 this
    · cases hi
  · intro h
    apply Classical.byContradiction
    intro hno
    refine h fun i h1 h2 => ?_
    apply Classical.byContradiction
    intro h3
    refine hno ⟨ll.getD (11 + i) 0, ?_, by simpa using h3⟩
    have hlt : 11 + i < ll.length := by omega
    rw [List.getD_eq_getElem?_getD, List.getElem?_eq_getElem hlt, Option.getD_some]
    refine List.mem_of_getElem? (i := i - n) ?_
    rw [List.getElem?_drop, List.getElem?_take, if_pos (by omega), show 11 + n + (i - n) = 11 + i by omega, List.getElem?_eq_getElem hlt]
theorem says_bad {ll : List UInt8} {L c n wt nm : Nat} (hL : numL (ll.take 4) = L) (hc : cntL ll = c) (hn : c % 128 = n) (hw : weighL (ll.take 62) = wt) (hm : numL (ll.drop 62) = nm) (h : badN L c n wt nm) : saysN ll = none := by
  unfold saysN
  rw [hL, hc, hn, hw, hm]
  rcases h with h | h
  · rw [if_pos h]
  · by_cases h1 : L = 0 ∨ 51 < n ∨ (c < 128 ∧ n < 51)
    · rw [if_pos h1]
    · rw [if_neg h1, if_pos (.inr h)]
theorem says_pad {ll : List UInt8} {L c n wt nm : Nat} (hl : ll.length = 64) (hL : numL (ll.take 4) = L) (hc : cntL ll = c) (hn : c % 128 = n) (hw : weighL (ll.take 62) = wt) (hm : numL (ll.drop 62) = nm) (h : ¬ badN L c n wt nm) :
    (¬ padZ ll n 51 → saysN ll = none) ∧ (padZ ll n 51 → saysN ll = some ⟨L, numL ((ll.drop 4).take 4), numL ((ll.drop 8).take 2), decide (128 ≤ c), (ll.drop 11).take n⟩) := by
  have h1 : ¬ (L = 0 ∨ 51 < n ∨ (c < 128 ∧ n < 51)) := fun e => h (.inl e)
  have h2 : wt = nm := by apply Classical.byContradiction; intro e; exact h (.inr e)
  have hp := padZ_any ll n hl (by omega)
  unfold saysN
  rw [hL, hc, hn, hw, hm, if_neg h1]
  refine ⟨fun h3 => by rw [if_pos (.inl (hp.2 h3))], fun h3 => ?_⟩
  rw [if_neg (by rintro (e | e); exact hp.1 e h3; exact e h2)]
set_option maxHeartbeats 8000000 in
set_option maxRecDepth 100000 in
theorem rsays_any (s : ByteArray) (hs : s.size = 64) (w : World) :
    Calls Tryd.prog 71 #[.string s] w fun e w' => e = .returned (.tuple #[.agg (secCs (saysN s.data.toList)), .bool (saysN s.data.toList).isSome]) ∧ NewMem w w' := by
  have hl : s.data.toList.length = 64 := by rw [← Lib.size_eq]; exact hs
  have hbyte : s[10]'(by omega) = s.data.toList.getD 10 0 := by
    rw [List.getD_eq_getElem?_getD, List.getElem?_eq_getElem (by omega)]; rfl
  have h10 : (s[10]'(by omega)).toNat = cntL s.data.toList := by rw [hbyte]; rfl
  have hc : cntL s.data.toList < 256 := UInt8.toNat_lt _
  obtain ⟨W1, hW1⟩ : ∃ W1, W1 = w.alloc zSecR := ⟨_, rfl⟩
  have N1 := rnumber_cut s hs 0 4 (by omega)
  have N2 := rnumber_cut s hs 4 8 (by omega)
  have N3 := rnumber_cut s hs 8 10 (by omega)
  have HN1 := Lib.hid N1
  have HN2 := Lib.hid N2
  have HN3 := Lib.hid N3
  generalize hcc : cntL s.data.toList = c at *
  have HCC := Lib.hid hcc
  have HW1 := Lib.hid hW1
  have HL := Lib.hid hl
  clear N1 N2 N3 hbyte hW1 hcc hl
  go_enter Tryd.func71, Tryd.ntmps71
  go_wp2_with fail
  have hz : (.cells #[.int .i64 0, .int .i64 0, .int .i64 0, .bool false, .string (⟨#[]⟩ : ByteArray)] 111 : Obj) = zSecR := rfl
  rw [hz, ← HW1.out]
  clear hz
  refine' wp_region_factsM (S := (fun L W => W = if L 13 then W1.drew.alloc zSecR else W1.drew)) (fun _ _ _ => True) [eqM _, eqM (.string (s.extract 0 4)), eqM (.int .i64 (numL ((s.data.toList.drop 0).take (4 - 0)) : Int)), eqM _, eqM (.string (s.extract 4 8)), eqM (.int .i64 (numL ((s.data.toList.drop 4).take (8 - 4)) : Int)), eqM _, eqM (.string (s.extract 8 10)), eqM (.int .i64 (numL ((s.data.toList.drop 8).take (10 - 8)) : Int)), eqM _, eqM (.int .u8 (c : Int)), eqM (.bool (decide (128 ≤ c))), eqM (.agg #[.int .i64 (numL ((s.data.toList.drop 0).take (4 - 0)) : Int), .int .i64 (numL ((s.data.toList.drop 4).take (8 - 4)) : Int), .int .i64 (numL ((s.data.toList.drop 8).take (10 - 8)) : Int), .bool (decide (128 ≤ c)), .string (⟨#[]⟩ : ByteArray)]), eqM (.pointer (some ⟨W1.heap.size, 0, none⟩))] (by kernel_rfl) (by kernel_rfl) ?hst ?h0 (Ord.stepsM_cons ?s0 (Ord.stepsM_cons ?s1 (Ord.stepsM_cons ?s2 (Ord.stepsM_cons ?s3 (Ord.stepsM_cons ?s4 (Ord.stepsM_cons ?s5 (Ord.stepsM_cons ?s6 (Ord.stepsM_cons ?s7 (Ord.stepsM_cons ?s8 (Ord.stepsM_cons ?s9 (Ord.stepsM_cons ?s10 (Ord.stepsM_cons ?s11 (Ord.stepsM_cons ?s12 (Ord.stepsM_cons ?s13 (Ord.stepsM_nil))))))))))))))) ?fin
  case s0 =>
    intro g W L hL hSW hd
    try simp only [Nat.zero_add, Nat.reduceAdd] at hd ⊢
    with_reducible refine OpGives.pre_reads [] 67 ?_ ?_ ?_
    · rfl
    · kernel_rfl
    simp only [List.map_cons, List.map_nil]
    refine OpGives.val (w' := W) ?_ ⟨trivial, rfl, hSW⟩
    go_simp
    try with_reducible rfl
  case s1 =>
    intro g W L hL hSW hd
    try simp only [Nat.zero_add, Nat.reduceAdd] at hd ⊢
    have h0 : g 0 = _ := hd 0 (by decide) (by kernel_rfl)
    with_reducible refine OpGives.pre_reads [(11, 0)] 67 ?_ ?_ ?_
    · rfl
    · kernel_rfl
    simp only [List.map_cons, List.map_nil]
    refine OpGives.val (w' := W) ?_ ⟨trivial, rfl, hSW⟩
    go_simp
    try with_reducible rfl
  case s2 =>
    intro g W L hL hSW hd
    try simp only [Nat.zero_add, Nat.reduceAdd] at hd ⊢
    have h1 : g 1 = _ := hd 1 (by decide) (by kernel_rfl)
    with_reducible refine OpGives.pre_reads [(12, 1)] 67 ?_ ?_ ?_
    · rfl
    · kernel_rfl
    simp only [List.map_cons, List.map_nil]
    refine OpGives.call (f := 80) (args := #[.string (s.extract 0 4)]) (w' := W) (by go_simp) ((HN1.out W).mono fun e W' ⟨he, hb⟩ => ⟨_, he, trivial, rfl, by rw [hb]; exact hSW⟩)
  case s3 =>
    intro g W L hL hSW hd
    try simp only [Nat.zero_add, Nat.reduceAdd] at hd ⊢
    with_reducible refine OpGives.pre_reads [] 67 ?_ ?_ ?_
    · rfl
    · kernel_rfl
    simp only [List.map_cons, List.map_nil]
    refine OpGives.val (w' := W) ?_ ⟨trivial, rfl, hSW⟩
    go_simp
    try with_reducible rfl
  case s4 =>
    intro g W L hL hSW hd
    try simp only [Nat.zero_add, Nat.reduceAdd] at hd ⊢
    have h3 : g 3 = _ := hd 3 (by decide) (by kernel_rfl)
    with_reducible refine OpGives.pre_reads [(14, 3)] 67 ?_ ?_ ?_
    · rfl
    · kernel_rfl
    simp only [List.map_cons, List.map_nil]
    refine OpGives.val (w' := W) ?_ ⟨trivial, rfl, hSW⟩
    go_simp
    try with_reducible rfl
  case s5 =>
    intro g W L hL hSW hd
    try simp only [Nat.zero_add, Nat.reduceAdd] at hd ⊢
    have h4 : g 4 = _ := hd 4 (by decide) (by kernel_rfl)
    with_reducible refine OpGives.pre_reads [(15, 4)] 67 ?_ ?_ ?_
    · rfl
    · kernel_rfl
    simp only [List.map_cons, List.map_nil]
    refine OpGives.call (f := 80) (args := #[.string (s.extract 4 8)]) (w' := W) (by go_simp) ((HN2.out W).mono fun e W' ⟨he, hb⟩ => ⟨_, he, trivial, rfl, by rw [hb]; exact hSW⟩)
  case s6 =>
    intro g W L hL hSW hd
    try simp only [Nat.zero_add, Nat.reduceAdd] at hd ⊢
    with_reducible refine OpGives.pre_reads [] 67 ?_ ?_ ?_
    · rfl
    · kernel_rfl
    simp only [List.map_cons, List.map_nil]
    refine OpGives.val (w' := W) ?_ ⟨trivial, rfl, hSW⟩
    go_simp
    try with_reducible rfl
  case s7 =>
    intro g W L hL hSW hd
    try simp only [Nat.zero_add, Nat.reduceAdd] at hd ⊢
    have h6 : g 6 = _ := hd 6 (by decide) (by kernel_rfl)
    with_reducible refine OpGives.pre_reads [(17, 6)] 67 ?_ ?_ ?_
    · rfl
    · kernel_rfl
    simp only [List.map_cons, List.map_nil]
    refine OpGives.val (w' := W) ?_ ⟨trivial, rfl, hSW⟩
    go_simp
    try with_reducible rfl
  case s8 =>
    intro g W L hL hSW hd
    try simp only [Nat.zero_add, Nat.reduceAdd] at hd ⊢
    have h7 : g 7 = _ := hd 7 (by decide) (by kernel_rfl)
    with_reducible refine OpGives.pre_reads [(18, 7)] 67 ?_ ?_ ?_
    · rfl
    · kernel_rfl
    simp only [List.map_cons, List.map_nil]
    refine OpGives.call (f := 80) (args := #[.string (s.extract 8 10)]) (w' := W) (by go_simp) ((HN3.out W).mono fun e W' ⟨he, hb⟩ => ⟨_, he, trivial, rfl, by rw [hb]; exact hSW⟩)
  case s9 =>
    intro g W L hL hSW hd
    try simp only [Nat.zero_add, Nat.reduceAdd] at hd ⊢
    with_reducible refine OpGives.pre_reads [] 67 ?_ ?_ ?_
    · rfl
    · kernel_rfl
    simp only [List.map_cons, List.map_nil]
    refine OpGives.val (w' := W) ?_ ⟨trivial, rfl, hSW⟩
    go_simp
    try with_reducible rfl
  case s10 =>
    intro g W L hL hSW hd
    try simp only [Nat.zero_add, Nat.reduceAdd] at hd ⊢
    have h9 : g 9 = _ := hd 9 (by decide) (by kernel_rfl)
    with_reducible refine OpGives.pre_reads [(20, 9)] 67 ?_ ?_ ?_
    · rfl
    · kernel_rfl
    simp only [List.map_cons, List.map_nil]
    refine OpGives.val (w' := W) ?_ ⟨trivial, rfl, hSW⟩
    go_simp
    try with_reducible rfl
  case s11 =>
    intro g W L hL hSW hd
    try simp only [Nat.zero_add, Nat.reduceAdd] at hd ⊢
    have h10 : g 10 = _ := hd 10 (by decide) (by kernel_rfl)
    with_reducible refine OpGives.pre_reads [(21, 10)] 67 ?_ ?_ ?_
    · rfl
    · kernel_rfl
    simp only [List.map_cons, List.map_nil]
    refine OpGives.val (w' := W) ?_ ⟨trivial, rfl, hSW⟩; go_simp; (constructor <;> intro h <;> omega)
  case s12 =>
    intro g W L hL hSW hd
    try simp only [Nat.zero_add, Nat.reduceAdd] at hd ⊢
    have h2 : g 2 = _ := hd 2 (by decide) (by kernel_rfl)
    have h5 : g 5 = _ := hd 5 (by decide) (by kernel_rfl)
    have h8 : g 8 = _ := hd 8 (by decide) (by kernel_rfl)
    have h11 : g 11 = _ := hd 11 (by decide) (by kernel_rfl)
    with_reducible refine OpGives.pre_reads [(13, 2), (16, 5), (19, 8), (22, 11)] 67 ?_ ?_ ?_
    · rfl
    · kernel_rfl
    simp only [List.map_cons, List.map_nil]
    refine OpGives.val (w' := W) ?_ ⟨trivial, rfl, hSW⟩
    go_simp
    try with_reducible rfl
  case s13 =>
    intro g W L hL hSW hd
    try simp only [Nat.zero_add, Nat.reduceAdd] at hd ⊢
    with_reducible refine OpGives.pre_reads [] 67 ?_ ?_ ?_
    · rfl
    · kernel_rfl
    simp only [List.map_cons, List.map_nil]
    rw [hL, if_neg (by decide)] at hSW; subst hSW; refine OpGives.val (v := .pointer (some ⟨W1.heap.size, 0, none⟩)) (w' := W1.drew.alloc zSecR) ?_ ⟨trivial, rfl, by simp⟩; unfold zSecR; go_simp
  case hst =>
    refine fun i j v w w' _ h _ => st_of (R := fun _ _ => True) ?_ i v w w' h trivial
    repeat' first
      | exact trivial
      | with_reducible refine StL.eq ?_
  case h0 => rfl
  case fin =>
    intro v W L hL hSW hf
    have h12 : v 12 = _ := hf 12 (Nat.lt_of_lt_of_eq (by decide : 12 < 14) rfl)
    have h13 : v 13 = _ := hf 13 (Nat.lt_of_lt_of_eq (by decide : 13 < 14) rfl)
    clear hf
    rw [hL 13 (Nat.lt_of_lt_of_eq (by decide : 13 < 14) rfl), if_pos rfl] at hSW
    subst hSW
    generalize hF : Ord.pre _ _ v _ = F
    rw [Ord.pre_lit [some 11, some 12, some 13, some 14, some 15, some 16, some 17, some 18, some 19, some 20, some 21, some 22, some 23, some 5]
      (by kernel_rfl)] at hF
    simp only [Ord.puts, Nat.zero_add, Nat.reduceAdd] at hF
    subst hF
    rw [h12, h13]
    clear h12 h13 hL
    unfold zSecR
    refine any_one (i := 14) (by kernel_rfl) ?_
    refine wpOp_skip (w' := W1.drew.alloc (.cells #[.int .i64 (numL ((s.data.toList.drop 0).take (4 - 0)) : Int), .int .i64 (numL ((s.data.toList.drop 4).take (8 - 4)) : Int), .int .i64 (numL ((s.data.toList.drop 8).take (10 - 8)) : Int), .bool (decide (128 ≤ c)), .string (⟨#[]⟩ : ByteArray)] 111)) rfl rfl (by go_simp) ?_
    refine wpAny_done (by kernel_rfl) ?_ _
    try simp only [List.getElem_toArray, List.getElem_cons_succ, List.getElem_cons_zero]
    go_frame
    obtain ⟨L0, hL0⟩ : ∃ L0, L0 = numL ((s.data.toList.drop 0).take (4 - 0)) := ⟨_, rfl⟩
    obtain ⟨R0, hR0⟩ : ∃ R0, R0 = numL ((s.data.toList.drop 4).take (8 - 4)) := ⟨_, rfl⟩
    obtain ⟨P0, hP0⟩ : ∃ P0, P0 = numL ((s.data.toList.drop 8).take (10 - 8)) := ⟨_, rfl⟩
    obtain ⟨bl, hbl⟩ : ∃ bl, bl = decide (128 ≤ c) := ⟨_, rfl⟩
    rw [← hL0, ← hR0, ← hP0, ← hbl]
    obtain ⟨X, hX⟩ : ∃ X, X = W1.drew.alloc (.cells #[.int .i64 (L0 : Int), .int .i64 (R0 : Int), .int .i64 (P0 : Int), .bool bl, .string (⟨#[]⟩ : ByteArray)] 111) := ⟨_, rfl⟩
    rw [← hX]
    have hg : X.heap[W1.heap.size]? = some (.cells #[.int .i64 (L0 : Int), .int .i64 (R0 : Int), .int .i64 (P0 : Int), .bool bl, .string (⟨#[]⟩ : ByteArray)] 111 (0, 0)) := by rw [hX]; exact heap_alloc_last W1.drew _
    have hn0 : NewMem w X := by rw [hX, HW1.out]; exact ((NewMem.alloc w _).trans (below_drewN' (n := 1) (Below.refl _ _))).trans (NewMem.alloc _ _)
    have hr : X.heap[w.heap.size]? = some (.cells #[.int .i64 0, .int .i64 0, .int .i64 0, .bool false, .string (⟨#[]⟩ : ByteArray)] 111 (0, 0)) := by
      rw [hX, Lib.alloc_old _ _ _ (by rw [HW1.out]; simp [World.drew])]
      show W1.heap[w.heap.size]? = _
      rw [HW1.out]; exact heap_alloc_last w _
    have hne : w.heap.size < W1.heap.size := by rw [HW1.out]; simp
    have HG := Lib.hid hg
    have HN0 := Lib.hid hn0
    have HR := Lib.hid hr
    have HNE := Lib.hid hne
    have HBL := Lib.hid hbl
    have HSS := Lib.hid hs
    obtain ⟨ll, hll⟩ : ∃ ll, ll = s.data.toList := ⟨_, rfl⟩
    obtain ⟨n, hn⟩ : ∃ n, n = c % 128 := ⟨_, rfl⟩
    have hlen : ll.length = 64 := by rw [hll]; exact HL.out
    have hwg : ∀ W, Calls Tryd.prog 78 #[.string (s.extract 0 62)] W fun e w' => e = .returned (.int .i64 (weighL (ll.take 62) : Int)) ∧ w' = W := fun W => by
      have h1 : (s.extract 0 62).data.toList = ll.take 62 := by rw [cut_list, hll]; rfl
      have h := rweight_any (s.extract 0 62) (by rw [Lib.size_eq, h1, List.length_take, hlen]; omega) W
      rw [h1] at h; exact h
    have hnm : ∀ W, Calls Tryd.prog 80 #[.string (s.extract 62 64)] W fun e w' => e = .returned (.int .i64 (numL (ll.drop 62) : Int)) ∧ w' = W := fun W => by
      have h := rnumber_cut s HSS.out 62 64 (by omega) W
      rw [← hll, List.take_of_length_le (by rw [List.length_drop, hlen]; omega)] at h
      exact h
    obtain ⟨wt, hwt⟩ : ∃ wt, wt = weighL (ll.take 62) := ⟨_, rfl⟩
    obtain ⟨nm, hnm0⟩ : ∃ nm, nm = numL (ll.drop 62) := ⟨_, rfl⟩
    rw [← hwt] at hwg
    rw [← hnm0] at hnm
    have e4 : numL (ll.take 4) = L0 := by rw [hL0, hll]; rfl
    have hbad := says_bad (c := c) (n := n) (wt := wt) (nm := nm) e4 (by rw [hll]; exact HCC.out) hn.symm hwt.symm hnm0.symm
    have hgood := says_pad (c := c) (n := n) (wt := wt) (nm := nm) hlen e4 (by rw [hll]; exact HCC.out) hn.symm hwt.symm hnm0.symm
    have hRP : numL ((ll.drop 4).take 4) = R0 ∧ numL ((ll.drop 8).take 2) = P0 := ⟨by rw [hR0, hll], by rw [hP0, hll]⟩
    rw [hRP.1, hRP.2, ← hbl] at hgood
    have HLL := Lib.hid hll
    have HLN := Lib.hid hlen
    have HBAD := Lib.hid hbad
    have HGOOD := Lib.hid hgood
    have HWG := Lib.hid hwg
    have HNM := Lib.hid hnm
    have HNC := Lib.hid hn
    have hcn : (c : Int) % 128 = (n : Int) := by omega
    rw [hcn]
    clear hX hg hn0 hr hne hL0 hR0 hP0 hbl hll hlen hbad hgood hwg hnm hwt hnm0 e4 hRP hn hcn HN1 HN2 HN3 h10 HL
    have k0 : X.cell? ⟨W1.heap.size, 0, none⟩ = some (.int .i64 (L0 : Int)) := by rw [Lib.cell_of_heap HG.out]; rfl
    have k3 : X.cell? ⟨W1.heap.size, 3, none⟩ = some (.bool bl) := by rw [Lib.cell_of_heap HG.out]; rfl
    go_upto_region 3 with (fail)
    go_cut [48] (fun b wc => b = .bool (decide (badN L0 c n wt nm)) ∧ ∃ q, wc = X.drewN q)
    case first =>
      by_cases h1 : L0 = 0
      · have e := Lib.hid (show decide (badN L0 c n wt nm) = true from decide_eq_true (.inl (.inl h1)))
        have g1 : ((L0 : Int) == 0) = true := by rw [beq_iff_eq]; omega
        have g1' : (L0 == 0) = true := by rw [beq_iff_eq]; omega
        clear h1
        go_wp2_with fail
        go_quiet ((first | (go_at_call 78; exact Calls.quiet_of_same (HWG.out _)) | (go_at_call 80; exact Calls.quiet_of_same (HNM.out _))))
        go_wp2_with fail
        go_meet
        case rel => exact ⟨by rw [e.out], nq, by first | rfl | simp⟩
      · have g1 : ((L0 : Int) == 0) = false := by rw [beq_eq_false_iff_ne]; omega
        have g1' : (L0 == 0) = false := by rw [beq_eq_false_iff_ne]; omega
        by_cases h2 : 51 < n
        · have e := Lib.hid (show decide (badN L0 c n wt nm) = true from decide_eq_true (.inl (.inr (.inl h2))))
          have g2 : decide (51 < n) = true := decide_eq_true h2
          have g2d : decide ((51 : Int) < (n : Int)) = true := decide_eq_true (by omega)
          clear h1 h2
          go_wp2_with fail
          go_quiet ((first | (go_at_call 78; exact Calls.quiet_of_same (HWG.out _)) | (go_at_call 80; exact Calls.quiet_of_same (HNM.out _))))
          go_wp2_with fail
          go_meet
          case rel => exact ⟨by rw [e.out], nq, by first | rfl | simp⟩
        · have g2 : decide (51 < n) = false := decide_eq_false h2
          have g2d : decide ((51 : Int) < (n : Int)) = false := decide_eq_false (by omega)
          by_cases h3 : bl = false ∧ n < 51
          · obtain ⟨h3, h4⟩ := h3
            have h128 : ¬ 128 ≤ c := of_decide_eq_false (by rw [← HBL.out, h3])
            have e := Lib.hid (show decide (badN L0 c n wt nm) = true from decide_eq_true (.inl (.inr (.inr ⟨by omega, h4⟩))))
            have g3 : decide (n < 51) = true := decide_eq_true h4
            have g3d : decide ((n : Int) < (51 : Int)) = true := decide_eq_true (by omega)
            rw [h3] at k3
            clear h1 h2 h3 h4 h128
            go_wp2_with fail
            go_quiet ((first | (go_at_call 78; exact Calls.quiet_of_same (HWG.out _)) | (go_at_call 80; exact Calls.quiet_of_same (HNM.out _))))
            go_wp2_with fail
            go_meet
            case rel => exact ⟨by rw [e.out], nq, by first | rfl | simp⟩
          · have hno : ¬ (L0 = 0 ∨ 51 < n ∨ (c < 128 ∧ n < 51)) := by
              rintro (x | x | ⟨x, y⟩)
              · exact h1 x
              · exact h2 x
              · exact h3 ⟨by rw [HBL.out]; exact decide_eq_false (by omega), y⟩
            have e : Hid (decide (badN L0 c n wt nm) = !decide (wt = nm)) := by
              by_cases hw : wt = nm
              · rw [decide_eq_true hw, decide_eq_false (by rintro (x | x); exact hno x; exact x hw)]; rfl
              · rw [decide_eq_false hw, decide_eq_true (.inr hw)]; rfl
            have hbn : (bl = true) ∨ (bl = false ∧ ¬ n < 51) := by
              cases hb : bl with
              | true => exact .inl rfl
              | false => exact .inr ⟨rfl, fun h => h3 ⟨hb, h⟩⟩
            have g5 : ((wt : Int) != (nm : Int)) = !decide (wt = nm) := by
              by_cases hw : wt = nm
              · rw [hw]; simp
              · rw [decide_eq_false hw]; simp; omega
            rcases hbn with hb | ⟨hb, hb2⟩
            · rw [hb] at k3
              clear h1 h2 h3 hno hb
              go_wp2_with fail
              go_quiet ((first | (go_at_call 78; exact Calls.quiet_of_same (HWG.out _)) | (go_at_call 80; exact Calls.quiet_of_same (HNM.out _))))
              go_wp2_with fail
              go_meet
              case rel => exact ⟨by rw [e.out], nq, by first | rfl | simp⟩
            · rw [hb] at k3
              have g3 : decide (n < 51) = false := decide_eq_false hb2
              have g3d : decide ((n : Int) < (51 : Int)) = false := decide_eq_false (by omega)
              clear h1 h2 h3 hno hb hb2
              go_wp2_with fail
              go_quiet ((first | (go_at_call 78; exact Calls.quiet_of_same (HWG.out _)) | (go_at_call 80; exact Calls.quiet_of_same (HNM.out _))))
              go_wp2_with fail
              go_meet
              case rel => exact ⟨by rw [e.out], nq, by first | rfl | simp⟩
    case rest =>
      obtain ⟨rfl, q0, rfl⟩ := hcut
      have HGY : Hid ((X.drewN q0).heap[W1.heap.size]? = some (.cells #[.int .i64 (L0 : Int), .int .i64 (R0 : Int), .int .i64 (P0 : Int), .bool bl, .string (⟨#[]⟩ : ByteArray)] 111 (0, 0))) := Lib.hid HG.out
      have HRY : Hid ((X.drewN q0).heap[w.heap.size]? = some (.cells #[.int .i64 0, .int .i64 0, .int .i64 0, .bool false, .string (⟨#[]⟩ : ByteArray)] 111 (0, 0))) := Lib.hid HR.out
      have HNY : Hid (NewMem w (X.drewN q0)) := Lib.hid (HN0.out.trans (below_drewN' (Below.refl _ _)))
      clear k0 k3 HG HR HN0
      generalize X.drewN q0 = Y at *
      have f0 := Lib.frozen_of_heap HRY.out 0
      have f1 := Lib.frozen_of_heap HRY.out 1
      have f2 := Lib.frozen_of_heap HRY.out 2
      have f3 := Lib.frozen_of_heap HRY.out 3
      have f4 := Lib.frozen_of_heap HRY.out 4
      have z0 : Y.cell? ⟨w.heap.size, 0, none⟩ = some (.int .i64 0) := by rw [Lib.cell_of_heap HRY.out]; rfl
      have z1 : Y.cell? ⟨w.heap.size, 1, none⟩ = some (.int .i64 0) := by rw [Lib.cell_of_heap HRY.out]; rfl
      have z2 : Y.cell? ⟨w.heap.size, 2, none⟩ = some (.int .i64 0) := by rw [Lib.cell_of_heap HRY.out]; rfl
      have z3 : Y.cell? ⟨w.heap.size, 3, none⟩ = some (.bool false) := by rw [Lib.cell_of_heap HRY.out]; rfl
      have z4 : Y.cell? ⟨w.heap.size, 4, none⟩ = some (.string (⟨#[]⟩ : ByteArray)) := by rw [Lib.cell_of_heap HRY.out]; rfl
      by_cases hbad : badN L0 c n wt nm
      · have HSN := Lib.hid (show saysN s.data.toList = none by rw [← HLL.out]; exact HBAD.out hbad)
        rw [decide_eq_true hbad]
        clear hbad
        go_wp2_with fail
        refine bodyPost_ret (results_rsays _ _ w.heap.size (.int .i64 0) (.int .i64 0) (.int .i64 0) (.bool false) (.string (⟨#[]⟩ : ByteArray)) (.bool false) rfl rfl (five_put HRY.out _ _ _ _ _)) rfl ?_
        rw [HSN.out]
        exact ⟨rfl, five_below HNY.out (Nat.le_refl _) _ _ _ _ _⟩
      · have hn51 : n ≤ 51 := by
          apply Classical.byContradiction
          intro h
          exact hbad (.inl (.inr (.inl (by omega))))
        have HGD := Lib.hid (HGOOD.out hbad)
        rw [decide_eq_false hbad]
        clear hbad
        go_wp2_with fail
        go_loopw [6] (fun i wr => ∃ j : Nat, n ≤ j ∧ j ≤ 51 ∧ i = .int .i64 (j : Int) ∧ wr = Y ∧ Hid (padZ ll n j)) (fun i _ => 51 - (intOf i).toNat)
        case atStart => exact ⟨n, Nat.le_refl _, hn51, rfl, rfl, Lib.hid (fun i h1 h2 => absurd h1 (by omega))⟩
        case round =>
          obtain ⟨j, hj1, hj2, rfl, rfl, hpad⟩ := hrel
          by_cases hlt : j < 51
          · have hdj : decide (j < 51) = true := decide_eq_true hlt
            have hjs : 11 + j < s.size := by omega
            have hbyte : s[11 + j] = ll.getD (11 + j) 0 := by
              rw [HLL.out, List.getD_eq_getElem?_getD, List.getElem?_eq_getElem (by rw [← Lib.size_eq]; exact hjs)]; rfl
            have HBY := Lib.hid hbyte
            clear hbyte
            by_cases hz : ll.getD (11 + j) 0 = 0
            · have hb0 : ((s[11 + j].toNat : Int) != 0) = false := by rw [HBY.out, hz]; rfl
              have hp' : padZ ll n (j + 1) := fun i h1 h2 => by
                by_cases e : i = j
                · rw [e]; exact hz
                · exact hpad.out i h1 (by omega)
              have HP := Lib.hid hp'
              clear hz hp'
              go_wp2_with fail
              go_roundw
              case rel => exact ⟨j + 1, by omega, hlt, by go_num, trivial, HP⟩
              case measure =>
                have hm : 51 - (j + 1) < 51 - j := by omega
                have ht : ((j : Int) + 1).toNat = j + 1 := by omega
                simp only [intOf, Int.toNat_natCast, ht]
                exact hm
            · have hb0 : ((s[11 + j].toNat : Int) != 0) = true := by
                rw [HBY.out, bne_iff_ne]
                intro e
                have e' : (ll.getD (11 + j) 0).toNat = 0 := by omega
                exact hz (UInt8.toNat_inj.1 (by rw [e']; rfl))
              have hsn : saysN s.data.toList = none := by
                rw [← HLL.out]
                exact HGD.out.1 (fun h => hz (h j hj1 hlt))
              have HSN := Lib.hid hsn
              clear hz hsn
              go_wp2_with fail
              refine bodyPost_ret (results_rsays _ _ w.heap.size (.int .i64 0) (.int .i64 0) (.int .i64 0) (.bool false) (.string (⟨#[]⟩ : ByteArray)) (.bool false) rfl rfl (five_put HRY.out _ _ _ _ _)) rfl ?_
              rw [HSN.out]
              exact ⟨rfl, five_below HNY.out (Nat.le_refl _) _ _ _ _ _⟩
          · have hdj : decide (j < 51) = false := decide_eq_false hlt
            have hj51 : j = 51 := by omega
            have hsn : saysN s.data.toList = some ⟨L0, R0, P0, bl, (ll.drop 11).take n⟩ := by
              rw [← HLL.out]
              exact HGD.out.2 (by rw [← hj51]; exact hpad.out)
            have hxs : s.extract 11 (11 + n) = ⟨((ll.drop 11).take n).toArray⟩ := by rw [Lib.extract_eq, HLL.out, show 11 + n - 11 = n by omega]
            have hne := HNE.out
            have hne3 : ¬ W1.heap.size = w.heap.size := by omega
            have kf : wr.frozen? ⟨W1.heap.size, 4, none⟩ = false := Lib.frozen_of_heap HGY.out 4
            have k0 : wr.cell? ⟨W1.heap.size, 0, none⟩ = some (.int .i64 (L0 : Int)) := by rw [Lib.cell_of_heap HGY.out]; rfl
            have k1 : wr.cell? ⟨W1.heap.size, 1, none⟩ = some (.int .i64 (R0 : Int)) := by rw [Lib.cell_of_heap HGY.out]; rfl
            have k2 : wr.cell? ⟨W1.heap.size, 2, none⟩ = some (.int .i64 (P0 : Int)) := by rw [Lib.cell_of_heap HGY.out]; rfl
            have k3 : wr.cell? ⟨W1.heap.size, 3, none⟩ = some (.bool bl) := by rw [Lib.cell_of_heap HGY.out]; rfl
            have k4 : wr.cell? ⟨W1.heap.size, 4, none⟩ = some (.string (⟨#[]⟩ : ByteArray)) := by rw [Lib.cell_of_heap HGY.out]; rfl
            have HSN := Lib.hid hsn
            have HXS := Lib.hid hxs
            clear hsn hxs hj51
            go_wp2_with fail
            have HRn : (wr.setCell ⟨W1.heap.size, 4, none⟩ (.string (s.extract 11 (11 + n)))).heap[w.heap.size]? = some (.cells #[.int .i64 0, .int .i64 0, .int .i64 0, .bool false, .string (⟨#[]⟩ : ByteArray)] 111 (0, 0)) := by
              rw [Below.heap_setCell _ _ _ _ (by simp; omega)]; exact HRY.out
            refine bodyPost_ret (results_rsays _ _ w.heap.size (.int .i64 (L0 : Int)) (.int .i64 (R0 : Int)) (.int .i64 (P0 : Int)) (.bool bl) (.string (s.extract 11 (11 + n))) (.bool true) rfl rfl (five_put HRn _ _ _ _ _)) rfl ?_
            rw [HSN.out]
            refine ⟨by rw [HXS.out]; rfl, five_below (HNY.out.setCell (p := ⟨W1.heap.size, 4, none⟩) (Nat.le_of_lt HNE.out) _) (Nat.le_refl _) _ _ _ _ _⟩
end Go.Proofs.YteljihpheffjnaaDoor.Tape
/- The document's record, walked. -/
namespace Go.Proofs.YteljihpheffjnaaDoor.Tape
open Go.RowKit Go.Proofs.YteljihpheffjnaaDoor.Ord Go.Proofs.YteljihpheffjnaaDoorW.PrintWords Go.Proofs.YteljihpheffjnaaDoor.Base Go.Proofs.YteljihpheffjnaaDoor.Drum
set_option linter.unusedVariables false
set_option linter.unusedSimpArgs false
attribute [local irreducible] OpGives

/-- The document's drum at b, which says what D says. -/
def RDrum (W : World) (b : Nat) (D : DS) : Prop := ∃ sv wv R, RefAt W b sv wv R ∧ Sim D R ∧ (∀ j, j < D.sure.length → (D.shows j).length = 64) ∧ D.sure.length ≤ 4096
theorem RDrum.new {W W' : World} {b : Nat} {D : DS} (h : RDrum W b D) (hn : NewMem W W') : RDrum W' b D := by
  obtain ⟨sv, wv, R, h1, h2, h3, h4⟩ := h
  exact ⟨sv, wv, R, h1.kept (F := fun _ => False) (Mod.of_below hn) (fun _ _ => id), h2, h3, h4⟩
theorem sim_shows {D : DS} {R : RS} (h : Sim D R) (j : Nat) (hj : j < D.sure.length) : R.shows j = str (D.shows j) := by
  unfold RS.shows DS.shows
  rw [h.w, h.s, List.getD_eq_getElem?_getD, List.getElem?_map, List.getElem?_eq_getElem hj, Option.map_some, Option.getD_some, shows_fold, List.getD_eq_getElem?_getD, List.getElem?_eq_getElem hj, Option.getD_some]
  cases D.loose.reverse.find? (fun q => q.1 == j) <;> rfl
theorem RDrum.shows {W : World} {b : Nat} {D : DS} (h : RDrum W b D) (j : Nat) (hj : j < D.sure.length) :
    Calls Tryd.prog 65 #[.pointer (some ⟨b, 0, none⟩), .int .i64 (j : Int)] W fun e w' => e = .returned (.string (str (D.shows j))) ∧ w' = W := by
  obtain ⟨sv, wv, R, h1, h2, h3, h4⟩ := h
  have := rshows_at b sv wv R j W h1 (by rw [h2.s, List.length_map]; exact hj)
  rw [sim_shows h2 j hj] at this
  exact this.mono fun e w' ⟨he, hw⟩ => ⟨he, hw.symm⟩
theorem RDrum.cells {W : World} {b : Nat} {D : DS} (h : RDrum W b D) : ∃ a cap, W.cell? ⟨b, 0, none⟩ = some (.slice a D.sure.length cap) ∧ W.cell? ⟨b, 3, none⟩ = some (.bool D.down) ∧ D.sure.length ≤ 4096 := by
  obtain ⟨sv, wv, R, h1, h2, h3, h4⟩ := h
  have hl : R.S.length = D.sure.length := by rw [h2.s, List.length_map]
  obtain ⟨c0, c1, c2, c3⟩ := h1.cell.cells
  rcases h1.s.2 with ⟨e, h0⟩ | ⟨g, cp, cur, e, _⟩
  · exact ⟨none, 0, by rw [c0, e, ← hl, h0], by rw [c3, h2.gone], h4⟩
  · exact ⟨_, cp, by rw [c0, e, hl], by rw [c3, h2.gone], h4⟩
/-- What Says tells of a sector. -/
theorem RDrum.says {W : World} {D : DS} (j : Nat) (h : (D.shows j).length = 64) :
    Calls Tryd.prog 71 #[.string (str (D.shows j))] W fun e w' => e = .returned (.tuple #[.agg (secCs (DS.sec D j)), .bool (DS.sec D j).isSome]) ∧ NewMem W w' := by
  have h1 := rsays_any (str (D.shows j)) (by unfold str; rw [Lib.size_eq]; exact h) W
  rw [show (str (D.shows j)).data.toList = D.shows j from rfl] at h1
  exact h1
/-- The record, as the document tells it: the sector behind it at the end. -/
def recD (at_ : Nat) : Option (List (List UInt8) × Nat) → List UInt8 × Nat × Nat
  | none => ([], 0, 0)
  | some (o, life) => (o.flatten, life, at_ + o.length)
def RecR (D : DS) (at_ n : Nat) (w : World) (ov lv pv : Value) (wr : World) : Prop :=
  ∃ (p lf : Nat) (outs : List (List UInt8)), pv = .int .i64 (p : Int) ∧ lv = .int .i64 (lf : Int) ∧ ov = .string ⟨outs.flatten.toArray⟩ ∧ outs.length = p ∧ at_ + p ≤ D.sure.length ∧ (∀ s ∈ outs, s.length ≤ 51) ∧ DS.rec D at_ n = recL D n (List.range' (at_ + p) (D.sure.length - (at_ + p))) lf outs ∧ NewMem w wr
set_option maxRecDepth 100000 in
set_option maxHeartbeats 8000000 in
theorem rrecord_at (b at_ n : Nat) (D : DS) (w : World) (h : RDrum w b D) (hat : at_ ≤ D.sure.length) (hn : n ≤ 1000000) :
    Calls Tryd.prog 70 #[.pointer (some ⟨b, 0, none⟩), .int .i64 (at_ : Int), .int .i64 (n : Int)] w fun e w' => e = .returned (.tuple #[.string ⟨(recD at_ (DS.rec D at_ n)).1.toArray⟩, .int .i64 ((recD at_ (DS.rec D at_ n)).2.1 : Int), .int .i64 ((recD at_ (DS.rec D at_ n)).2.2 : Int)]) ∧ NewMem w w' := by
  obtain ⟨N, hN⟩ : ∃ N, N = D.sure.length := ⟨_, rfl⟩
  obtain ⟨sa0, sc0, hcc0, _, hfew⟩ := h.cells
  have hcell : ∀ W, NewMem w W → W.cell? ⟨b, 0, none⟩ = some (.slice sa0 N sc0) := fun W hW => by
    have hb : b < w.heap.size := World.block_lt_of_cell? w _ hcc0
    rw [hN]
    exact (hW.cell (p := ⟨b, 0, none⟩) hb).trans hcc0
  obtain ⟨RV, hRV⟩ : ∃ RV, RV = recD at_ (DS.rec D at_ n) := ⟨_, rfl⟩
  rw [← hRV]
  have hst : RecR D at_ n w (.string ⟨[].toArray⟩) (.int .i64 0) (.int .i64 0) w := ⟨0, 0, [], rfl, rfl, rfl, rfl, by omega, (fun s h => by cases h), rfl, NewMem.refl _⟩
  have HST := Lib.hid hst
  have HRV := Lib.hid hRV
  have HC := Lib.hid hcell
  have H := Lib.hid h
  have HNN := Lib.hid hN
  have HF := Lib.hid hfew
  clear hst hRV hcell h hN hfew hcc0 hat
  go_enter Tryd.func70, Tryd.ntmps70
  go_wp2_with fail
  go_loopw [9, 10, 11] (fun ov lv pv wr => RecR D at_ n w ov lv pv wr) (fun _ _ p _ => N + 1 - (intOf p).toNat)
  case atStart => exact HST.out
  case round =>
    obtain ⟨p, lf, outs, rfl, rfl, rfl, hlen, hple, hsm, hrec, hbel⟩ := hrel
    have hp4 : at_ + p ≤ 4096 := by have := HF.out; omega
    obtain ⟨F, hFF⟩ : ∃ F, F = outs.flatten := ⟨_, rfl⟩
    rw [← hFF]
    have HFF := Lib.hid hFF
    clear hFF
    have hadd : wrap64 ((at_ : Int) + (p : Int)) = ((at_ + p : Nat) : Int) := w_add (by omega)
    have hcell := HC.out wr hbel
    have HLEN := Lib.hid hlen
    have HSM := Lib.hid hsm
    have HREC := Lib.hid hrec
    have HB := Lib.hid hbel
    have HPL := Lib.hid hple
    clear hlen hsm hrec hbel hple
    by_cases hlt : at_ + p < N
    · have hd : decide (at_ + p < N) = true := decide_eq_true hlt
      have hdr := H.out.new HB.out
      have hsh := hdr.shows (at_ + p) (by rw [← HNN.out]; exact hlt)
      have h64 : (D.shows (at_ + p)).length = 64 := by
        obtain ⟨_, _, _, _, _, h3, _⟩ := hdr
        exact h3 _ (by rw [← HNN.out]; exact hlt)
      have hsy := RDrum.says (W := wr) (at_ + p) h64
      rw [show ((at_ + p : Nat) : Int) = (at_ : Int) + (p : Int) by omega] at hsh
      have HSH := Lib.hid hsh
      have HSY := Lib.hid hsy
      clear hdr hsh h64 hsy
      have hstep : DS.rec D at_ n = recL D n ((at_ + p) :: List.range' (at_ + (p + 1)) (N - (at_ + (p + 1)))) lf outs := by
        rw [HREC.out, ← HNN.out, show N - (at_ + p) = (N - (at_ + (p + 1))) + 1 by omega, List.range'_succ, ← Nat.add_assoc]
      have HSTEP := Lib.hid hstep
      clear hstep
      have hcat : F.length ≤ 51 * 4096 := by
        have := flat_len 51 outs HSM.out
        have := HLEN.out
        rw [HFF.out]
        omega
      have bad : (DS.rec D at_ n = none) → RV = ([], 0, 0) := fun e => by rw [HRV.out, e]; rfl
      have BAD := Lib.hid bad
      clear bad
      cases hs : DS.sec D (at_ + p) with
      | none =>
        rw [hs] at HSY
        have hno : DS.rec D at_ n = none := by rw [HSTEP.out]; simp [recL, hs]
        have HRN := Lib.hid (BAD.out hno)
        clear hs hno
        unfold secCs at HSY
        simp only [Option.isSome_none] at HSY
        go_wp2_with fail
        refine HSH.out.mono ?_
        rintro e w' ⟨rfl, rfl⟩
        go_wp2_with fail
        refine HSY.out.mono ?_
        rintro e W1 ⟨rfl, hn1⟩
        have HB1 := Lib.hid (HB.out.trans hn1)
        clear hn1
        go_wp2_with fail
        refine bodyPost_ret (v := .tuple #[.string ⟨[].toArray⟩, .int .i64 0, .int .i64 0]) (by simp [results, Tryd.f70, go_sem]) rfl ?_
        rw [HRN.out]
        exact ⟨rfl, HB1.out.trans (NewMem.alloc _ _)⟩
      | some x =>
        obtain ⟨life, record, part, last, str0⟩ := x
        rw [hs] at HSY
        have hsl : str0.length ≤ 51 := sec_len hs
        have HS := Lib.hid hs
        clear hs
        unfold secCs at HSY
        simp only [Option.isSome_some] at HSY
        by_cases c1 : record = n
        · subst c1
          by_cases c2 : part = p
          · subst c2
            by_cases c3 : part = 0 ∨ life = lf
            · have hgo : DS.rec D at_ record = if last = true then some (outs ++ [str0], life) else recL D record (List.range' (at_ + (part + 1)) (N - (at_ + (part + 1)))) life (outs ++ [str0]) := by
                have hcond : record = record ∧ part = outs.length ∧ life = (if outs.length = 0 then life else lf) := by
                  refine ⟨rfl, HLEN.out.symm, ?_⟩
                  rw [HLEN.out]
                  by_cases h0 : part = 0
                  · rw [if_pos h0]
                  · rw [if_neg h0]; rcases c3 with h | h; exact absurd h h0; exact h
                rw [HSTEP.out]
                conv => lhs; unfold recL
                rw [HS.out]
                dsimp only
                rw [if_pos hcond]
              have HGO := Lib.hid hgo
              have hcl : ¬ (9223372036854775807 < F.length + str0.length) := by omega
              have hfl : (outs ++ [str0]).flatten = F ++ str0 := by rw [HFF.out]; simp
              have HFL := Lib.hid hfl
              clear hgo hfl
              by_cases c4 : part = 0
              · have g4 : decide (0 < part) = false := decide_eq_false (by omega)
                have g4i : decide ((0 : Int) < (part : Int)) = false := decide_eq_false (by omega)
                clear c4 c3
                cases last with
                | true =>
                  have hrv : RV = (F ++ str0, life, at_ + (part + 1)) := by
                    rw [HRV.out, HGO.out, if_pos rfl]
                    show ((outs ++ [str0]).flatten, life, at_ + (outs ++ [str0]).length) = _
                    rw [HFL.out, List.length_append, List.length_singleton, HLEN.out]
                  have HR := Lib.hid hrv
                  clear hrv
                  go_wp2_with fail
                  refine HSH.out.mono ?_
                  rintro e w' ⟨rfl, rfl⟩
                  go_wp2_with fail
                  refine HSY.out.mono ?_
                  rintro e W1 ⟨rfl, hn1⟩
                  have HB1 := Lib.hid (HB.out.trans hn1)
                  clear hn1
                  go_wp2_with fail
                  refine bodyPost_ret (v := .tuple #[.string (⟨F.toArray⟩ ++ ⟨str0.toArray⟩), .int .i64 (life : Int), .int .i64 ((at_ : Int) + (part : Int) + 1)]) (by simp [results, Tryd.f70, go_sem]) rfl ?_
                  rw [HR.out, str_app, show (at_ : Int) + (part : Int) + 1 = ((at_ + (part + 1) : Nat) : Int) by omega]
                  exact ⟨rfl, HB1.out.trans (NewMem.alloc _ _)⟩
                | false =>
                  have hgo2 := HGO.out
                  rw [if_neg (by decide)] at hgo2
                  have HG2 := Lib.hid hgo2
                  clear hgo2
                  go_wp2_with fail
                  refine HSH.out.mono ?_
                  rintro e w' ⟨rfl, rfl⟩
                  go_wp2_with fail
                  refine HSY.out.mono ?_
                  rintro e W1 ⟨rfl, hn1⟩
                  have HB1 := Lib.hid (HB.out.trans hn1)
                  clear hn1
                  go_wp2_with fail
                  go_roundw
                  case rel =>
                    refine ⟨part + 1, life, outs ++ [str0], by go_num, rfl, by rw [HFL.out, str_app], by rw [List.length_append, List.length_singleton, HLEN.out], by have := HNN.out; omega, fun s hs => ?_, by rw [← HNN.out]; exact HG2.out, HB1.out.trans (NewMem.alloc _ _)⟩
                    rcases List.mem_append.1 hs with hs | hs
                    · exact HSM.out s hs
                    · rw [List.mem_singleton.1 hs]; exact hsl
                  case measure =>
                    have hm : N + 1 - (part + 1) < N + 1 - part := by omega
                    have ht : ((part : Int) + 1).toNat = part + 1 := by omega
                    simp only [intOf, Int.toNat_natCast, ht]
                    exact hm
              · have g4 : decide (0 < part) = true := decide_eq_true (by omega)
                have g4i : decide ((0 : Int) < (part : Int)) = true := decide_eq_true (by omega)
                have g5 : life = lf := by rcases c3 with h | h; exact absurd h c4; exact h
                subst g5
                clear c4 c3
                cases last with
                | true =>
                  have hrv : RV = (F ++ str0, life, at_ + (part + 1)) := by
                    rw [HRV.out, HGO.out, if_pos rfl]
                    show ((outs ++ [str0]).flatten, life, at_ + (outs ++ [str0]).length) = _
                    rw [HFL.out, List.length_append, List.length_singleton, HLEN.out]
                  have HR := Lib.hid hrv
                  clear hrv
                  go_wp2_with fail
                  refine HSH.out.mono ?_
                  rintro e w' ⟨rfl, rfl⟩
                  go_wp2_with fail
                  refine HSY.out.mono ?_
                  rintro e W1 ⟨rfl, hn1⟩
                  have HB1 := Lib.hid (HB.out.trans hn1)
                  clear hn1
                  go_wp2_with fail
                  refine bodyPost_ret (v := .tuple #[.string (⟨F.toArray⟩ ++ ⟨str0.toArray⟩), .int .i64 (life : Int), .int .i64 ((at_ : Int) + (part : Int) + 1)]) (by simp [results, Tryd.f70, go_sem]) rfl ?_
                  rw [HR.out, str_app, show (at_ : Int) + (part : Int) + 1 = ((at_ + (part + 1) : Nat) : Int) by omega]
                  exact ⟨rfl, HB1.out.trans (NewMem.alloc _ _)⟩
                | false =>
                  have hgo2 := HGO.out
                  rw [if_neg (by decide)] at hgo2
                  have HG2 := Lib.hid hgo2
                  clear hgo2
                  go_wp2_with fail
                  refine HSH.out.mono ?_
                  rintro e w' ⟨rfl, rfl⟩
                  go_wp2_with fail
                  refine HSY.out.mono ?_
                  rintro e W1 ⟨rfl, hn1⟩
                  have HB1 := Lib.hid (HB.out.trans hn1)
                  clear hn1
                  go_wp2_with fail
                  go_roundw
                  case rel =>
                    refine ⟨part + 1, life, outs ++ [str0], by go_num, rfl, by rw [HFL.out, str_app], by rw [List.length_append, List.length_singleton, HLEN.out], by have := HNN.out; omega, fun s hs => ?_, by rw [← HNN.out]; exact HG2.out, HB1.out.trans (NewMem.alloc _ _)⟩
                    rcases List.mem_append.1 hs with hs | hs
                    · exact HSM.out s hs
                    · rw [List.mem_singleton.1 hs]; exact hsl
                  case measure =>
                    have hm : N + 1 - (part + 1) < N + 1 - part := by omega
                    have ht : ((part : Int) + 1).toNat = part + 1 := by omega
                    simp only [intOf, Int.toNat_natCast, ht]
                    exact hm
            · have hno : DS.rec D at_ record = none := by
                rw [HSTEP.out]
                unfold recL
                rw [HS.out]
                simp only [HLEN.out]
                rw [if_neg]
                rintro ⟨_, _, h⟩
                rw [if_neg (fun e => c3 (.inl e))] at h
                exact c3 (.inr h)
              have HRN := Lib.hid (BAD.out hno)
              have g4 : decide (0 < part) = true := decide_eq_true (by omega)
              have g4i : decide ((0 : Int) < (part : Int)) = true := decide_eq_true (by omega)
              have g5 : (life == lf) = false := beq_eq_false_iff_ne.2 (fun e => c3 (.inr e))
              have g5i : ((life : Int) == (lf : Int)) = false := beq_eq_false_iff_ne.2 (fun e => c3 (.inr (by omega)))
              clear hno c3
              go_wp2_with fail
              refine HSH.out.mono ?_
              rintro e w' ⟨rfl, rfl⟩
              go_wp2_with fail
              refine HSY.out.mono ?_
              rintro e W1 ⟨rfl, hn1⟩
              have HB1 := Lib.hid (HB.out.trans hn1)
              clear hn1
              go_wp2_with fail
              refine bodyPost_ret (v := .tuple #[.string ⟨[].toArray⟩, .int .i64 0, .int .i64 0]) (by simp [results, Tryd.f70, go_sem]) rfl ?_
              rw [HRN.out]
              exact ⟨rfl, HB1.out.trans (NewMem.alloc _ _)⟩
          · have hno : DS.rec D at_ record = none := by
              rw [HSTEP.out]
              unfold recL
              rw [HS.out]
              simp only [HLEN.out]
              rw [if_neg (fun h => c2 h.2.1)]
            have HRN := Lib.hid (BAD.out hno)
            have g5 : (part == p) = false := beq_eq_false_iff_ne.2 c2
            have g5i : ((part : Int) == (p : Int)) = false := beq_eq_false_iff_ne.2 (fun e => c2 (by omega))
            clear hno
            go_wp2_with fail
            refine HSH.out.mono ?_
            rintro e w' ⟨rfl, rfl⟩
            go_wp2_with fail
            refine HSY.out.mono ?_
            rintro e W1 ⟨rfl, hn1⟩
            have HB1 := Lib.hid (HB.out.trans hn1)
            clear hn1
            go_wp2_with fail
            refine bodyPost_ret (v := .tuple #[.string ⟨[].toArray⟩, .int .i64 0, .int .i64 0]) (by simp [results, Tryd.f70, go_sem]) rfl ?_
            rw [HRN.out]
            exact ⟨rfl, HB1.out.trans (NewMem.alloc _ _)⟩
        · have hno : DS.rec D at_ n = none := by
            rw [HSTEP.out]
            unfold recL
            rw [HS.out]
            simp only []
            rw [if_neg (fun h => c1 h.1)]
          have HRN := Lib.hid (BAD.out hno)
          have g5 : (record == n) = false := beq_eq_false_iff_ne.2 c1
          have g5i : ((record : Int) == (n : Int)) = false := beq_eq_false_iff_ne.2 (fun e => c1 (by omega))
          clear hno
          go_wp2_with fail
          refine HSH.out.mono ?_
          rintro e w' ⟨rfl, rfl⟩
          go_wp2_with fail
          refine HSY.out.mono ?_
          rintro e W1 ⟨rfl, hn1⟩
          have HB1 := Lib.hid (HB.out.trans hn1)
          clear hn1
          go_wp2_with fail
          refine bodyPost_ret (v := .tuple #[.string ⟨[].toArray⟩, .int .i64 0, .int .i64 0]) (by simp [results, Tryd.f70, go_sem]) rfl ?_
          rw [HRN.out]
          exact ⟨rfl, HB1.out.trans (NewMem.alloc _ _)⟩
    · have hd : decide (at_ + p < N) = false := decide_eq_false hlt
      have hno : DS.rec D at_ n = none := by rw [HREC.out, Nat.sub_eq_zero_of_le (by rw [← HNN.out]; omega)]; rfl
      have hrn : RV = ([], 0, 0) := by rw [HRV.out, hno]; rfl
      have HRN := Lib.hid hrn
      clear hno hrn
      go_wp2_with fail
      refine bodyPost_ret (v := .tuple #[.string ⟨[].toArray⟩, .int .i64 0, .int .i64 0]) (by simp [results, Tryd.f70, go_sem]) rfl ?_
      rw [HRN.out]
      exact ⟨rfl, HB.out⟩
end Go.Proofs.YteljihpheffjnaaDoor.Tape
/- The document's Scans, walked. -/
namespace Go.Proofs.YteljihpheffjnaaDoor.Tape
open Go.RowKit Go.Proofs.YteljihpheffjnaaDoor.Ord Go.Proofs.YteljihpheffjnaaDoorW.PrintWords Go.Proofs.YteljihpheffjnaaDoor.Base Go.Proofs.YteljihpheffjnaaDoor.Drum
set_option linter.unusedVariables false
set_option linter.unusedSimpArgs false
attribute [local irreducible] OpGives

theorem rec_life {D : DS} {at_ n l : Nat} {o : List (List UInt8)} (h : DS.rec D at_ n = some (o, l)) : 0 < l := by
  obtain ⟨j, _, y, hy, hyl⟩ := recL_life _ _ _ _ _ h
  rw [← hyl]; exact says_life hy
def mOf : Value → Nat
  | .bool true => 1
  | _ => 0
/-- While the records are told. -/
def ScansR (D : DS) (w : World) (N : Nat) (v a q m : Value) (wr : World) : Prop :=
  ∃ (outs : List (List UInt8)) (at_ was k : Nat) (mb : Bool), a = .int .i64 (at_ : Int) ∧ q = .int .i64 (was : Int) ∧ m = .bool mb ∧ wr.ownsRow w.heap.size 9 1 v outs.length (strs outs) ∧ at_ ≤ N ∧ outs.length ≤ at_ ∧ NewMem w wr ∧ (mb = true → N ≤ at_ + k ∧ DS.scan D = DS.scanN D k at_ (max 1 was) outs) ∧ (mb = false → DS.scan D = (outs, at_))
set_option maxRecDepth 100000 in
set_option maxHeartbeats 8000000 in
theorem rscans_at (b : Nat) (D : DS) (w : World) (h : RDrum w b D) :
    Calls Tryd.prog 52 #[.pointer (some ⟨b, 0, none⟩)] w fun e w' => ∃ v, e = .returned (.tuple #[v, .int .i64 ((DS.scan D).2 : Int), .int .i64 (DS.great D : Int)]) ∧ w'.ownsRow w.heap.size 9 1 v (DS.scan D).1.length (strs (DS.scan D).1) ∧ NewMem w w' := by
  obtain ⟨N, hN⟩ : ∃ N, N = D.sure.length := ⟨_, rfl⟩
  obtain ⟨sa0, sc0, hcc0, _, hfew⟩ := h.cells
  have hcell : ∀ W, NewMem w W → W.cell? ⟨b, 0, none⟩ = some (.slice sa0 N sc0) := fun W hW => by
    have hb : b < w.heap.size := World.block_lt_of_cell? w _ hcc0
    rw [hN]
    exact (hW.cell (p := ⟨b, 0, none⟩) hb).trans hcc0
  have hrec : ∀ (W : World) (at_ n : Nat), NewMem w W → at_ ≤ N → n ≤ 1000000 → Calls Tryd.prog 70 #[.pointer (some ⟨b, 0, none⟩), .int .i64 (at_ : Int), .int .i64 (n : Int)] W fun e w' => e = .returned (.tuple #[.string ⟨(recD at_ (DS.rec D at_ n)).1.toArray⟩, .int .i64 ((recD at_ (DS.rec D at_ n)).2.1 : Int), .int .i64 ((recD at_ (DS.rec D at_ n)).2.2 : Int)]) ∧ NewMem W w' := fun W at_ n hW ha hn => rrecord_at b at_ n D W (h.new hW) (by omega) hn
  have hst : ScansR D w N (.slice none 0 0) (.int .i64 0) (.int .i64 0) (.bool true) w := ⟨[], 0, 0, N, true, rfl, rfl, rfl, World.ownsRow_nil _ _ _ _, Nat.zero_le _, Nat.le_refl _, NewMem.refl _, fun _ => ⟨Nat.le_add_left _ _, by rw [hN]; rfl⟩, fun h => by cases h⟩
  have hrl : ∀ (at_ n : Nat) (o : List (List UInt8)) (l : Nat), DS.rec D at_ n = some (o, l) → at_ ≤ N → at_ + o.length ≤ N ∧ 0 < o.length := fun at_ n o l hx ha => by
    have := rec_len hx; omega
  have hend : ∀ n, DS.rec D N n = none := fun n => rec_end (by omega)
  have HST := Lib.hid hst
  have HC := Lib.hid hcell
  have H := Lib.hid h
  have HREC := Lib.hid hrec
  have HRL := Lib.hid hrl
  have HEND := Lib.hid hend
  have HNN := Lib.hid hN
  have hf : N ≤ 4096 := by omega
  have HF := Lib.hid hf
  clear hst hcell h hrec hrl hend hN hf hfew hcc0
  go_enter Tryd.func52, Tryd.ntmps52
  go_wp2_with fail
  go_loopw [5, 6, 7, 9] (fun v a q m wr => ScansR D w N v a q m wr) (fun _ a _ m _ => 2 * (N - (intOf a).toNat) + mOf m)
  case atStart => exact HST.out
  case round =>
    obtain ⟨outs, at_, was, k, mb, rfl, rfl, rfl, hown, hle, hout, hbel, htrue, hfalse⟩ := hrel
    have hcell := HC.out wr hbel
    obtain ⟨sa, scp, hv⟩ : ∃ a cp, u5 = .slice a outs.length cp := by
      rcases hown.2 with ⟨e, h0⟩ | ⟨g, cp, cur, e, _⟩
      · exact ⟨none, 0, by rw [e, h0]⟩
      · exact ⟨_, cp, e⟩
    subst hv
    have HOWN := Lib.hid hown
    have HB := Lib.hid hbel
    have HLE := Lib.hid hle
    have HOU := Lib.hid hout
    have HTR := Lib.hid htrue
    have HFA := Lib.hid hfalse
    clear hown hbel hle hout htrue hfalse
    by_cases hgo : mb = true ∧ at_ < N
    · obtain ⟨hmb, hlt⟩ := hgo
      subst hmb
      have hd : decide (at_ < N) = true := decide_eq_true hlt
      have hdi : decide ((at_ : Int) < (N : Int)) = true := decide_eq_true (by omega)
      obtain ⟨hfu, hsc⟩ := HTR.out rfl
      have hr := HREC.out wr at_ (outs.length + 1) HB.out HLE.out (by have := HOU.out; have := HF.out; omega)
      rw [show ((outs.length + 1 : Nat) : Int) = (outs.length : Int) + 1 by omega] at hr
      have hadd : wrap64 ((outs.length : Int) + 1) = (outs.length : Int) + 1 := by have := HOU.out; have := HF.out; unfold wrap64; omega
      cases hx : DS.rec D at_ (outs.length + 1) with
      | none =>
        rw [hx] at hr
        have hdone : DS.scan D = (outs, at_) := hsc.trans (scanN_none hx k)
        have HD := Lib.hid hdone
        have HR := Lib.hid hr
        clear hx hr hdone hsc hfu
        go_wp2_with fail
        refine HR.out.mono ?_
        rintro e W1 ⟨rfl, hn1⟩
        have HB1 := Lib.hid (HB.out.trans hn1)
        have HO1 := Lib.hid (ownsRow_mod HOWN.out (Mod.of_below (F := fun _ => False) hn1) (fun _ _ => id))
        clear hn1
        unfold recD
        go_wp2_with fail
        refine ⟨⟨outs, at_, was, k, false, rfl, rfl, rfl, HO1.out, HLE.out, HOU.out, HB1.out, (fun h => by cases h), fun _ => HD.out⟩, ?_⟩
        exact Nat.lt_succ_self _
      | some y =>
        obtain ⟨o, life⟩ := y
        rw [hx] at hr
        have hlp := rec_life hx
        have hol := HRL.out _ _ _ _ hx HLE.out
        have hp : decide (0 < life) = true := decide_eq_true hlp
        have hpi : decide ((0 : Int) < (life : Int)) = true := decide_eq_true (by omega)
        by_cases hlw : life < was
        · have hdone : DS.scan D = (outs, at_) := hsc.trans (scanN_lt hx (by omega) k)
          have g1 : decide (was ≤ life) = false := decide_eq_false (by omega)
          have g1i : decide ((was : Int) ≤ (life : Int)) = false := decide_eq_false (by omega)
          have HD := Lib.hid hdone
          have HR := Lib.hid hr
          clear hx hr hdone hsc hfu hol
          go_wp2_with fail
          refine HR.out.mono ?_
          rintro e W1 ⟨rfl, hn1⟩
          have HB1 := Lib.hid (HB.out.trans hn1)
          have HO1 := Lib.hid (ownsRow_mod HOWN.out (Mod.of_below (F := fun _ => False) hn1) (fun _ _ => id))
          clear hn1
          unfold recD
          go_wp2_with fail
          refine ⟨⟨outs, at_, was, k, false, rfl, rfl, rfl, HO1.out, HLE.out, HOU.out, HB1.out, (fun h => by cases h), fun _ => HD.out⟩, ?_⟩
          exact Nat.lt_succ_self _
        · have hk : ∃ k', k = k' + 1 := ⟨k - 1, by omega⟩
          obtain ⟨k', rfl⟩ := hk
          have hdone : DS.scan D = DS.scanN D k' (at_ + o.length) (max 1 life) (outs ++ [o.flatten]) := by
            rw [hsc, scanN_more hx (by omega) k', show max 1 life = life by omega]
          have g1 : decide (was ≤ life) = true := decide_eq_true (by omega)
          have g1i : decide ((was : Int) ≤ (life : Int)) = true := decide_eq_true (by omega)
          have HD := Lib.hid hdone
          have HR := Lib.hid hr
          have HOL := Lib.hid hol
          have HFU := Lib.hid hfu
          obtain ⟨i0, hi0, hz0, hz1, hz2⟩ := info_parts info_string
          clear hx hr hdone hsc hfu hol hlw
          go_wp2_with fail
          refine HR.out.mono ?_
          rintro e W1 ⟨rfl, hn1⟩
          have hsz1 := hn1.size
          have hszr := HB.out.size
          have hlen4 : outs.length ≤ 4096 := by have := HOU.out; have := HF.out; omega
          have hown1 : W1.ownsRow w.heap.size 9 1 (.slice sa outs.length scp) outs.length (strs outs) := ownsRow_mod HOWN.out (Mod.of_below (F := fun _ => False) hn1) (fun _ _ => id)
          have HB1 := Lib.hid (HB.out.trans hn1)
          clear hn1
          unfold recD
          go_wp2_with (at_builtin; refine wpList_append_own _ rfl _ _ 28 rfl w.heap.size 9 i0 (.string ⟨#[]⟩) 1 16 Tryd.underlying28 hi0 hz0 hz1 hz2 rfl (by decide) _ _ _ rfl (hown1.alloc _) ⟨W1.heap.size, 0, none⟩ 1 1 [.string ⟨o.flatten.toArray⟩] rfl rfl ?c1 ?c2 ?c3 ?c4 ?c5 ?_)
          case c1 => exact World.news_of_block (by simpa using heap_alloc_last W1 (.cells #[.string ⟨o.flatten.toArray⟩] 9))
          case c2 => exact fun u hu => by rw [List.mem_singleton.1 hu]; rfl
          case c3 => unfold maxLen; omega
          case c4 => omega
          case c5 => rw [World.size_alloc]; omega
          intro v' W2 hown' hgrow _
          have hb2 : Below w.heap.size w W2 := ((show Below w.heap.size w W1 from HB1.out).alloc (by omega) _).grown hgrow (by simp; omega) (fun j hj => (hown1.lt j hj).1)
          have HB2 := Lib.hid hb2
          have HOW := Lib.hid hown'
          clear hgrow hb2 hown1 hown'
          go_wp2_with fail
          go_roundw
          case rel =>
            refine ⟨outs ++ [o.flatten], at_ + o.length, life, k', true, by go_num, rfl, rfl, ?_, HOL.out.1, ?_, HB2.out, fun _ => ⟨by have := HFU.out; have := HOL.out; omega, HD.out⟩, (fun h => by cases h)⟩
            · have := HOW.out
              rw [strs_snoc, List.length_append]
              exact this
            · rw [List.length_append, List.length_singleton]; have := HOU.out; have := HOL.out; omega
          case measure =>
            have hm : 2 * (N - (at_ + o.length)) + mOf (.bool true) < 2 * (N - at_) + mOf (.bool true) := by have := HOL.out; omega
            have ht : ((at_ : Int) + (o.length : Int)).toNat = at_ + o.length := by omega
            simp only [intOf, Int.toNat_natCast, ht]
            exact hm
    · have hnd : (mb && decide (at_ < N)) = false := by
        cases hmb : mb with
        | false => rfl
        | true => rw [decide_eq_false (fun h => hgo ⟨hmb, h⟩)]; rfl
      have hdone : DS.scan D = (outs, at_) := by
        cases hmb : mb with
        | false => exact HFA.out hmb
        | true =>
          have : at_ = N := by have := HLE.out; have : ¬ at_ < N := fun h => hgo ⟨hmb, h⟩; omega
          rw [(HTR.out hmb).2]
          exact scanN_none (by rw [this]; exact HEND.out _) k
      have HD := Lib.hid hdone
      have hd0 : mb = true → decide (at_ < N) = false := fun h => decide_eq_false (fun x => hgo ⟨h, x⟩)
      clear hdone hgo
      have hdone2 := HD.out
      have hb2 : ∀ W2, NewMem wr W2 → NewMem w W2 := fun W2 h2 => HB.out.trans h2
      have HB2 := Lib.hid hb2
      have hfin : ∀ W2, NewMem wr W2 → (∃ v, Ending.returned (.tuple #[.slice sa outs.length scp, .int .i64 (at_ : Int), .int .i64 (DS.great D : Int)]) = .returned (.tuple #[v, .int .i64 ((DS.scan D).2 : Int), .int .i64 (DS.great D : Int)]) ∧ W2.ownsRow w.heap.size 9 1 v (DS.scan D).1.length (strs (DS.scan D).1) ∧ NewMem w W2) := fun W2 h2 => by
        rw [HD.out]
        exact ⟨_, rfl, ownsRow_mod HOWN.out (Mod.of_below (F := fun _ => False) h2) (fun _ _ => id), HB.out.trans h2⟩
      have HFIN := Lib.hid hfin
      clear hdone2 hb2 hfin
      have hmb : (mb = false) ∨ (mb = true ∧ decide (at_ < N) = false ∧ decide ((at_ : Int) < (N : Int)) = false) := by
        cases h : mb with
        | false => exact .inl rfl
        | true => exact .inr ⟨rfl, hd0 h, by rw [decide_eq_false]; have := of_decide_eq_false (hd0 h); omega⟩
      clear hnd hd0
      rcases hmb with hmb | ⟨hmb, hda, hdai⟩
      all_goals
        subst hmb
        go_wp2_with fail
        go_loopw [8, 13] (fun l i wr2 => ∃ j : Nat, i = .int .i64 (j : Int) ∧ j ≤ N ∧ l = .int .i64 (DS.greatL D (List.range' 0 j) : Int) ∧ NewMem wr wr2) (fun _ i _ => N - (intOf i).toNat)
        case atStart => exact ⟨0, rfl, Nat.zero_le _, rfl, NewMem.refl _⟩
        case round =>
          obtain ⟨j, rfl, hj, rfl, hn2⟩ := hrel
          have hN4 := HF.out
          have hc2 := HC.out _ (HB2.out _ hn2)
          by_cases hlt : j < N
          · have hdj : decide (j < N) = true := decide_eq_true hlt
            have hdji : decide ((j : Int) < (N : Int)) = true := decide_eq_true (by omega)
            have hdr := H.out.new (HB2.out _ hn2)
            have hsh := hdr.shows j (by rw [← HNN.out]; exact hlt)
            have h64 : (D.shows j).length = 64 := by
              obtain ⟨_, _, _, _, _, h3, _⟩ := hdr
              exact h3 _ (by rw [← HNN.out]; exact hlt)
            have hsn : DS.greatL D (List.range' 0 (j + 1)) = DS.great1 D (DS.greatL D (List.range' 0 j)) j := by
              rw [List.range'_concat, greatL_snoc]; simp
            unfold DS.great1 at hsn
            generalize DS.greatL D (List.range' 0 j) = m at *
            cases hs : DS.sec D j with
            | none =>
              rw [hs] at hsn
              have HSN := Lib.hid hsn
              have HSH := Lib.hid hsh
              have HN2 := Lib.hid hn2
              clear hdr hsh hsn hn2
              go_wp2_with fail
              refine HSH.out.mono ?_
              rintro e w' ⟨rfl, rfl⟩
              have hsy := RDrum.says (D := D) (W := w') j h64
              rw [hs] at hsy
              unfold secCs at hsy
              simp only [Option.isSome_none] at hsy
              have HSY := Lib.hid hsy
              clear hsy hs
              go_wp2_with fail
              refine HSY.out.mono ?_
              rintro e W3 ⟨rfl, hn3⟩
              have HB3 := Lib.hid (HN2.out.trans hn3)
              clear hn3
              go_wp2_with fail
              go_roundw
              case rel => exact ⟨j + 1, by go_num, hlt, by rw [HSN.out], HB3.out.trans (NewMem.alloc _ _)⟩
              case measure =>
                have hm : N - (j + 1) < N - j := by omega
                have ht : ((j : Int) + 1).toNat = j + 1 := by omega
                simp only [intOf, Int.toNat_natCast, ht]
                exact hm
            | some x =>
              obtain ⟨life, record, part, last, str0⟩ := x
              rw [hs] at hsn
              have HSN := Lib.hid hsn
              have HSH := Lib.hid hsh
              have HN2 := Lib.hid hn2
              clear hdr hsh hsn hn2
              go_wp2_with fail
              refine HSH.out.mono ?_
              rintro e w' ⟨rfl, rfl⟩
              have hsy := RDrum.says (D := D) (W := w') j h64
              rw [hs] at hsy
              unfold secCs at hsy
              simp only [Option.isSome_some] at hsy
              have HSY := Lib.hid hsy
              clear hsy hs
              go_wp2_with fail
              refine HSY.out.mono ?_
              rintro e W3 ⟨rfl, hn3⟩
              have HB3 := Lib.hid (HN2.out.trans hn3)
              clear hn3
              go_wp2_with fail
              go_roundw
              case rel => exact ⟨j + 1, by go_num, hlt, by rw [HSN.out]; show Value.int .i64 (max (m : Int) (life : Int)) = Value.int .i64 ((max m life : Nat) : Int); congr 1; omega, HB3.out.trans (NewMem.alloc _ _)⟩
              case measure =>
                have hm : N - (j + 1) < N - j := by omega
                have ht : ((j : Int) + 1).toNat = j + 1 := by omega
                simp only [intOf, Int.toNat_natCast, ht]
                exact hm
          · have hjN : j = N := by omega
            have hgr : DS.greatL D (List.range' 0 j) = DS.great D := by unfold DS.great; rw [hjN, HNN.out]
            rw [hgr]
            have hdj : decide (j < N) = false := decide_eq_false hlt
            have hdji : decide ((j : Int) < (N : Int)) = false := decide_eq_false (by omega)
            have HN2 := Lib.hid hn2
            clear hjN hgr hn2
            go_wp2_with fail
            refine bodyPost_ret (v := .tuple #[.slice sa outs.length scp, .int .i64 (at_ : Int), .int .i64 (DS.great D : Int)]) (by simp [results, Tryd.f52, go_sem]) rfl ?_
            exact HFIN.out _ HN2.out
end Go.Proofs.YteljihpheffjnaaDoor.Tape
/- The document's Scan and Open over things that lie apart. -/
namespace Go.Proofs.YteljihpheffjnaaDoor.Tape
open Go.RowKit Go.Proofs.YteljihpheffjnaaDoor.Ord Go.Proofs.YteljihpheffjnaaDoorW.PrintWords Go.Proofs.YteljihpheffjnaaDoor.Base Go.Proofs.YteljihpheffjnaaDoor.Drum
set_option linter.unusedVariables false
set_option linter.unusedSimpArgs false
attribute [local go_sem] rdl_const rdl_func rdl_global rdl_nil rdl_cons
attribute [local irreducible] OpGives

/-- A drum whose sectors are as wide as they should be. -/
def DW (D : DS) : Prop := (∀ j, j < D.sure.length → (D.shows j).length = 64) ∧ D.sure.length ≤ 4096
def rtapeT (tb b : Nat) (T : TS) : Thing := blockT tb (T.cells b) 92
def RTAt (W : World) (tb b : Nat) (T : TS) : Prop := W.heap[tb]? = some (.cells (T.cells b) 92 (0, 0))
section
variable {B : Nat} {w W : World} {l : List Thing} {tb b : Nat} {D : DS} {R : RS} {T : TS} {t : Thing}
theorem RTAt.of (h : Sep B w W (rtapeT tb b T :: l)) : RTAt W tb b T := sep_head h
theorem RTAt.c0 (h : RTAt W tb b T) : W.cell? ⟨tb, 0, none⟩ = some (.pointer (some ⟨b, 0, none⟩)) := by rw [Lib.cell_of_heap h]; rfl
theorem RTAt.c1 (h : RTAt W tb b T) : W.cell? ⟨tb, 1, none⟩ = some (.int .i64 (T.count : Int)) := by rw [Lib.cell_of_heap h]; rfl
theorem RTAt.c2 (h : RTAt W tb b T) : W.cell? ⟨tb, 2, none⟩ = some (.int .i64 (T.life : Int)) := by rw [Lib.cell_of_heap h]; rfl
theorem RTAt.c3 (h : RTAt W tb b T) : W.cell? ⟨tb, 3, none⟩ = some (.int .i64 (T.at_ : Int)) := by rw [Lib.cell_of_heap h]; rfl
theorem RTAt.c4 (h : RTAt W tb b T) : W.cell? ⟨tb, 4, none⟩ = some (.int .i64 T.err) := by rw [Lib.cell_of_heap h]; rfl
theorem RTAt.free (h : RTAt W tb b T) (i : Nat) : W.frozen? ⟨tb, i, none⟩ = false := frozen_of_row W tb i _ _ h
theorem RTAt.setE (h : RTAt W tb b T) (e : Int) : RTAt (W.setCell ⟨tb, 4, none⟩ (.int .i64 e)) tb b { T with err := e } := cells_set h 4 _
theorem RTAt.setA (h : RTAt W tb b T) (e : Nat) : RTAt (W.setCell ⟨tb, 3, none⟩ (.int .i64 (e : Int))) tb b { T with at_ := e } := cells_set h 3 _
theorem RTAt.setC (h : RTAt W tb b T) (e : Nat) : RTAt (W.setCell ⟨tb, 1, none⟩ (.int .i64 (e : Int))) tb b { T with count := e } := cells_set h 1 _
theorem rsep_setT {T' : TS} {i : Nat} {v : Value} (h : Sep B w W (rtapeT tb b T :: l)) (h' : RTAt (W.setCell ⟨tb, i, none⟩ v) tb b T') : Sep B w (W.setCell ⟨tb, i, none⟩ v) (rtapeT tb b T' :: l) :=
  h.turn (t' := rtapeT tb b T') (Mod.setCell _ _ _ rfl) h' (fun k hk => .inl hk)
theorem rdrum_of (h : Sep B w W (t :: l)) (ht : IsRef b R t) (hs : Sim D R) (hw : DW D) : RDrum W b D := by
  obtain ⟨sv, wv, rfl⟩ := ht
  exact ⟨sv, wv, R, sep_head h, hs, hw.1, hw.2⟩
theorem rscan_sep (h : Sep B w W (t :: l)) (ht : IsRef b R t) (hs0 : Sim D R) (hw : DW D) (hd : D.down = false) :
    Calls Tryd.prog 25 #[.pointer (some ⟨b, 0, none⟩)] W fun e W' => ∃ v, e = .returned (.tuple #[v, .int .i64 ((DS.scan D).2 : Int), .int .i64 (DS.great D : Int), .int .i64 0]) ∧ Sep B w W' (textsT v (DS.scan D).1 :: t :: l) := by
  have hr := rdrum_of h ht hs0 hw
  obtain ⟨sa0, sc0, _, c3, _⟩ := hr.cells
  rw [hd] at c3
  have hs := Lib.hid (rscans_at b D W hr)
  have H := Lib.hid h
  clear h hr hd
  go_enter Tryd.func25, Tryd.ntmps25
  go_wp2_with fail
  refine hs.out.mono ?_
  rintro e W1 ⟨v, rfl, ho, hn⟩
  have HO := Lib.hid ho
  have HN := Lib.hid hn
  clear ho hn
  go_wp2_with fail
  refine bodyPost_ret (v := .tuple #[v, .int .i64 ((DS.scan D).2 : Int), .int .i64 (DS.great D : Int), .int .i64 0]) (by simp [results, Tryd.f25, go_sem]) rfl ?_
  exact ⟨_, rfl, H.out.new HN.out (t := textsT v (DS.scan D).1) (owns_low HO.out) (fun k hk => (World.ownsRow.lt HO.out k hk).1)⟩
theorem rscan_down (h : Sep B w W (t :: l)) (ht : IsRef b R t) (hs0 : Sim D R) (hd : D.down = true) :
    Calls Tryd.prog 25 #[.pointer (some ⟨b, 0, none⟩)] W fun e W' => e = .returned (.tuple #[.slice none 0 0, .int .i64 0, .int .i64 0, .int .i64 9]) ∧ W' = W := by
  obtain ⟨a, cap, a', cap', _, _, c3⟩ := IsRef.cells h ht
  rw [hs0.gone, hd] at c3
  clear h hd
  go_enter Tryd.func25, Tryd.ntmps25
  go_wp2
  refine bodyPost_ret (v := .tuple #[.slice none 0 0, .int .i64 0, .int .i64 0, .int .i64 9]) (by simp [results, Tryd.f25, go_sem]) rfl ?_
  exact ⟨rfl, rfl⟩
def ROpenOk (B : Nat) (w : World) (l : List Thing) (b : Nat) (D : DS) (e : Ending) (W' : World) : Prop := ∃ tb v, e = .returned (.tuple #[.pointer (some ⟨tb, 0, none⟩), v, .int .i64 0]) ∧ Sep B w W' (rtapeT tb b (DS.tape D) :: textsT v (DS.scan D).1 :: l)
def ROpened (B : Nat) (w : World) (l : List Thing) (b : Nat) (D : DS) : Ending → World → Prop :=
  if D.down = true then OpenFail B w l 9 else if DS.great D = 4294967295 then OpenFail B w l 5 else ROpenOk B w l b D
set_option maxHeartbeats 4000000 in
theorem ropen_sep (h : Sep B w W (t :: l)) (ht : IsRef b R t) (hs0 : Sim D R) (hw : DW D) (hgr : DS.great D < 4294967296) :
    Calls Tryd.prog 43 #[.pointer (some ⟨b, 0, none⟩)] W (ROpened B w (t :: l) b D) := by
  unfold ROpened
  by_cases hd : D.down = true
  · have hs := Lib.hid (rscan_down h ht hs0 hd)
    have H := Lib.hid h
    rw [if_pos hd]
    clear h hd hgr
    go_enter Tryd.func43, Tryd.ntmps43
    go_wp2_with fail
    refine hs.out.mono ?_
    rintro e w' ⟨rfl, rfl⟩
    go_wp2
    refine bodyPost_ret (v := .tuple #[.pointer none, .slice none 0 0, .int .i64 9]) (by simp [results, Tryd.f43, go_sem]) rfl ?_
    exact ⟨rfl, H.out⟩
  · have hs := Lib.hid (rscan_sep h ht hs0 hw (by simpa using hd))
    rw [if_neg hd]
    by_cases hg : DS.great D = 4294967295
    · rw [if_pos hg]
      have hgi : (DS.great D : Int) = 4294967295 := by omega
      rw [hgi] at hs
      clear h hd hgr hg hgi
      go_enter Tryd.func43, Tryd.ntmps43
      go_wp2_with fail
      refine hs.out.mono ?_
      rintro e W1 ⟨v, rfl, hs1⟩
      have HS1 := Lib.hid hs1
      clear hs1
      go_wp2
      refine bodyPost_ret (v := .tuple #[.pointer none, .slice none 0 0, .int .i64 5]) (by simp [results, Tryd.f43, go_sem]) rfl ?_
      exact ⟨rfl, HS1.out.tail⟩
    · rw [if_neg hg]
      have hgi : ((DS.great D : Int) == 4294967295) = false := by simp; omega
      have hwr : wrap64 ((DS.great D : Int) + 1) = ((DS.great D + 1 : Nat) : Int) := w_one (by omega)
      unfold ROpenOk DS.tape
      generalize DS.great D = gr at *
      clear h hd hgr hg
      go_enter Tryd.func43, Tryd.ntmps43
      go_wp2_with fail
      refine hs.out.mono ?_
      rintro e W1 ⟨v, rfl, hs1⟩
      obtain ⟨a, cp, rfl⟩ := texts_slice (sep_head hs1)
      have HS1 := Lib.hid hs1
      clear hs1
      go_wp2_with fail
      refine bodyPost_ret (v := .tuple #[.pointer (some ⟨W1.heap.size, 0, none⟩), .slice a (DS.scan D).1.length cp, .int .i64 0]) (by simp [results, Tryd.f43, go_sem]) rfl ?_
      rw [show (gr : Int) + 1 = ((gr + 1 : Nat) : Int) by omega]
      exact ⟨_, _, rfl, HS1.out.new (NewMem.alloc _ _) (heap_alloc_last _ _) (fun k hk => by rw [hk]; exact Nat.le_refl _)⟩
end
end Go.Proofs.YteljihpheffjnaaDoor.Tape
/- The document's Lay, walked. -/
namespace Go.Proofs.YteljihpheffjnaaDoor.Tape
open Go.RowKit Go.Proofs.YteljihpheffjnaaDoor.Ord Go.Proofs.YteljihpheffjnaaDoorW.PrintWords Go.Proofs.YteljihpheffjnaaDoor.Base Go.Proofs.YteljihpheffjnaaDoor.Drum
set_option linter.unusedVariables false
set_option linter.unusedSimpArgs false
attribute [local go_sem] rdl_const rdl_func rdl_global rdl_nil rdl_cons
attribute [local irreducible] OpGives

/-- A row of zeros, made anew. -/
def zerosF (m : Nat) : Fact NewMem := ⟨fun v W => ∃ k, v = .slice (some ⟨k, 0, none⟩) m m ∧ W.heap[k]? = some (.cells (madeCells #[.int .u8 0] m) 5 (0, 0)), fun v W W' ⟨k, e, hc⟩ hn => ⟨k, e, (hn.block _ (Array.getElem?_eq_some_iff.1 hc).1).trans hc⟩⟩
theorem exec_makeSlice {o : Oper} {ρ : Operand → Value} {w w' : World} {v : Value} (t : TypeId) (l c : Operand) (ho : o.op = .makeSlice t l c) (hr : (Instr.makeSlice t (ρ l) (ρ c)).run Tryd.prog w = .ok v w') : (execOp ρ o).run Tryd.prog w = .ok (.value v) w' := by
  unfold execOp
  simp only [ho, Sem.run_bind, Sem.run_pure, Result.andThen_ok, hr]
theorem zeros_cells (m : Nat) : (madeCells #[.int .u8 0] m) = (nums .u8 (ints (List.replicate m 0))).toArray := by
  rw [show (#[.int .u8 0] : Array Value) = (List.replicate 1 (Value.int .u8 0)).toArray from rfl, madeCells_rep _ 1 m (by decide)]
  simp [nums, ints]
theorem zeros_own (W : World) (kb m : Nat) (hm : m ≤ 51) (h : W.heap[kb]? = some (.cells (madeCells #[.int .u8 0] m) 5 (0, 0))) : W.ownsRow 0 5 1 (.slice (some ⟨kb, 0, none⟩) m m) m (nums .u8 (ints (List.replicate m 0))) := by
  rw [zeros_cells] at h
  have hl : (nums .u8 (ints (List.replicate m (0 : UInt8)))).length = m := by simp [nums, ints]
  exact ⟨by rw [hl]; omega, .inr ⟨kb, m, _, rfl, Nat.zero_le _, h, Nat.le_refl _, by unfold maxLen; omega, by rw [List.size_toArray, hl]; omega, by rw [List.take_of_length_le (by rw [hl]; omega)]⟩⟩
set_option maxHeartbeats 8000000 in
set_option maxRecDepth 100000 in
theorem rlay_head (life record part c : Nat) (last : Bool) (s : List UInt8) (hs : s.length ≤ 51) (hl : life < 9223372036854775808) (hr : record < 9223372036854775808) (hp : part < 9223372036854775808) (hc : c = s.length + if last then 128 else 0) (w : World) :
    Calls Tryd.prog 67 #[.agg #[.int .i64 (life : Int), .int .i64 (record : Int), .int .i64 (part : Int), .bool last, .string ⟨s.toArray⟩]] w fun e w' => e = .returned (.string ⟨(layN ⟨life, record, part, last, s⟩).toArray⟩) ∧ NewMem w w' := by
  obtain ⟨W1, hW1⟩ : ∃ W1, W1 = w.alloc (.cells #[.int .i64 (life : Int), .int .i64 (record : Int), .int .i64 (part : Int), .bool last, .string ⟨s.toArray⟩] 111) := ⟨_, rfl⟩
  have hn1 : NewMem w W1 := by rw [hW1]; exact NewMem.alloc _ _
  have hg1 : W1.heap[w.heap.size]? = some (.cells #[.int .i64 (life : Int), .int .i64 (record : Int), .int .i64 (part : Int), .bool last, .string ⟨s.toArray⟩] 111 (0, 0)) := by rw [hW1]; exact heap_alloc_last _ _
  have hcells : ∀ W, NewMem W1 W → W.cell? ⟨w.heap.size, 0, none⟩ = some (.int .i64 (life : Int)) ∧ W.cell? ⟨w.heap.size, 1, none⟩ = some (.int .i64 (record : Int)) ∧ W.cell? ⟨w.heap.size, 2, none⟩ = some (.int .i64 (part : Int)) ∧ W.cell? ⟨w.heap.size, 3, none⟩ = some (.bool last) ∧ W.cell? ⟨w.heap.size, 4, none⟩ = some (.string ⟨s.toArray⟩) := fun W hW => by
    have hg := (hW.block _ (Array.getElem?_eq_some_iff.1 hg1).1).trans hg1
    refine ⟨?_, ?_, ?_, ?_, ?_⟩ <;> (rw [Lib.cell_of_heap hg]; rfl)
  have hc256 : c < 256 := by rw [hc]; split <;> omega
  have hsz : (⟨s.toArray⟩ : ByteArray).size = s.length := by simp [ByteArray.size]
  have hm1 : 51 - s.length ≤ 51 := by omega
  have hby : ∀ (k n : Nat), n < 9223372036854775808 → k ≤ 100 → ∀ W, Calls Tryd.prog 77 #[.int .i64 (n : Int), .int .i64 (k : Int)] W fun e w' => e = .returned (.string ⟨(beL k n).toArray⟩) ∧ NewMem W w' := fun k n h1 h2 W => rbytes_any k n h1 h2 W
  obtain ⟨Z, hZ⟩ : ∃ Z, Z = List.replicate (51 - s.length) (0 : UInt8) := ⟨_, rfl⟩
  have hZl : Z.length = 51 - s.length := by rw [hZ, List.length_replicate]
  obtain ⟨HD, hHD⟩ : ∃ HD, HD = beL 4 life ++ beL 4 record ++ beL 2 part ++ beL 1 c ++ s ++ Z := ⟨_, rfl⟩
  have hhead : headL ⟨life, record, part, last, s⟩ = HD := by
    unfold headL
    simp only
    rw [← hc, hHD, hZ]
    simp only [List.append_assoc]
  have hHl : HD.length = 62 := by rw [← hhead]; exact headL_len hs
  have hlay : layN ⟨life, record, part, last, s⟩ = HD ++ beL 2 (weighL HD) := by unfold layN; rw [hhead]
  rw [hlay]
  have hwt : ∀ W, Calls Tryd.prog 78 #[.string ⟨HD.toArray⟩] W fun e w' => e = .returned (.int .i64 (weighL HD : Int)) ∧ w' = W := fun W => by
    have h := rweight_any ⟨HD.toArray⟩ (by rw [Lib.size_eq]; show HD.length ≤ _; rw [hHl]; decide) W
    exact h
  have hcT : last = true → (s.length : Int) + 128 = (c : Int) := fun h => by rw [hc, h]; simp
  have hcF : last = false → (s.length : Int) = (c : Int) := fun h => by rw [hc, h]; simp
  have hwl := weighL_lt HD
  have HC := Lib.hid hcells
  have HBY := Lib.hid hby
  have HWT := Lib.hid hwt
  have HW1 := Lib.hid hW1
  have HN1 := Lib.hid hn1
  have HHD := Lib.hid hHD
  have HHL := Lib.hid hHl
  have HZ := Lib.hid hZ
  have HCT := Lib.hid hcT
  have HCF := Lib.hid hcF
  obtain ⟨h0, h1, h2, h3, h4⟩ := hcells W1 (NewMem.refl _)
  rw [hW1] at h3 h4
  clear hcells hW1 hn1 hg1 hc hby hwt hHD hHl hhead hlay hZ hcT hcF h0 h1 h2
  cases last with
  | true =>
    go_enter Tryd.func67, Tryd.ntmps67
    go_wp2_with fail
    rw [← HW1.out]
    first | rw [HCT.out rfl] | rw [HCT.out trivial] | rw [HCF.out rfl] | rw [HCF.out trivial]
    clear h3 h4
    refine' wp_region_facts (S := (NewMem W1)) (R := NewMem) [eqF _ _, eqF _ (.int .i64 (life : Int)), eqF _ (.string ⟨(beL 4 life).toArray⟩), eqF _ _, eqF _ (.int .i64 (record : Int)), eqF _ (.string ⟨(beL 4 record).toArray⟩), eqF _ (.string ⟨(beL 4 life ++ beL 4 record).toArray⟩), eqF _ _, eqF _ (.int .i64 (part : Int)), eqF _ (.string ⟨(beL 2 part).toArray⟩), eqF _ (.string ⟨(beL 4 life ++ beL 4 record ++ beL 2 part).toArray⟩), eqF _ (.int .i64 (c : Int)), eqF _ (.string ⟨(beL 1 c).toArray⟩), eqF _ (.string ⟨(beL 4 life ++ beL 4 record ++ beL 2 part ++ beL 1 c).toArray⟩), eqF _ _, eqF _ (.string ⟨s.toArray⟩), eqF _ (.string ⟨(beL 4 life ++ beL 4 record ++ beL 2 part ++ beL 1 c ++ s).toArray⟩), eqF _ _, eqF _ (.string ⟨s.toArray⟩), eqF _ (.int .i64 (s.length : Int)), eqF _ (.int .i64 ((51 - s.length : Nat) : Int)), zerosF (51 - s.length), eqF _ (.string ⟨Z.toArray⟩), eqF _ (.string ⟨HD.toArray⟩)] (by kernel_rfl) (by kernel_rfl) ?hS ?h0 (Ord.steps_cons ?s0 (Ord.steps_cons ?s1 (Ord.steps_cons ?s2 (Ord.steps_cons ?s3 (Ord.steps_cons ?s4 (Ord.steps_cons ?s5 (Ord.steps_cons ?s6 (Ord.steps_cons ?s7 (Ord.steps_cons ?s8 (Ord.steps_cons ?s9 (Ord.steps_cons ?s10 (Ord.steps_cons ?s11 (Ord.steps_cons ?s12 (Ord.steps_cons ?s13 (Ord.steps_cons ?s14 (Ord.steps_cons ?s15 (Ord.steps_cons ?s16 (Ord.steps_cons ?s17 (Ord.steps_cons ?s18 (Ord.steps_cons ?s19 (Ord.steps_cons ?s20 (Ord.steps_cons ?s21 (Ord.steps_cons ?s22 (Ord.steps_cons ?s23 (Ord.steps_nil))))))))))))))))))))))))) ?fin
    case s0 =>
      intro g W hSW hd
      try simp only [Nat.zero_add, Nat.reduceAdd] at hd ⊢
      with_reducible refine OpGives.pre_reads [] 41 ?_ ?_ ?_
      · rfl
      · kernel_rfl
      simp only [List.map_cons, List.map_nil]
      refine OpGives.val (w' := W) ?_ ⟨NewMem.refl _, rfl⟩
      go_simp
      try with_reducible rfl
    case s1 =>
      intro g W hSW hd
      try simp only [Nat.zero_add, Nat.reduceAdd] at hd ⊢
      have h0 : g 0 = _ := hd 0 (by decide) (by kernel_rfl)
      with_reducible refine OpGives.pre_reads [(12, 0)] 41 ?_ ?_ ?_
      · rfl
      · kernel_rfl
      simp only [List.map_cons, List.map_nil]
      have c0 := (HC.out W hSW).1; refine OpGives.val (w' := W) ?_ ⟨NewMem.refl _, rfl⟩; go_simp
    case s2 =>
      intro g W hSW hd
      try simp only [Nat.zero_add, Nat.reduceAdd] at hd ⊢
      have h1 : g 1 = _ := hd 1 (by decide) (by kernel_rfl)
      with_reducible refine OpGives.pre_reads [(13, 1)] 41 ?_ ?_ ?_
      · rfl
      · kernel_rfl
      simp only [List.map_cons, List.map_nil]
      refine OpGives.call (f := 77) (args := #[.int .i64 (life : Int), .int .i64 ((4 : Nat) : Int)]) (w' := W) (by go_simp) ((HBY.out 4 life hl (by decide) W).mono fun e w' ⟨he, hn⟩ => ⟨_, he, hn, rfl⟩)
    case s3 =>
      intro g W hSW hd
      try simp only [Nat.zero_add, Nat.reduceAdd] at hd ⊢
      with_reducible refine OpGives.pre_reads [] 41 ?_ ?_ ?_
      · rfl
      · kernel_rfl
      simp only [List.map_cons, List.map_nil]
      refine OpGives.val (w' := W) ?_ ⟨NewMem.refl _, rfl⟩
      go_simp
      try with_reducible rfl
    case s4 =>
      intro g W hSW hd
      try simp only [Nat.zero_add, Nat.reduceAdd] at hd ⊢
      have h3 : g 3 = _ := hd 3 (by decide) (by kernel_rfl)
      with_reducible refine OpGives.pre_reads [(15, 3)] 41 ?_ ?_ ?_
      · rfl
      · kernel_rfl
      simp only [List.map_cons, List.map_nil]
      have c1 := (HC.out W hSW).2.1; refine OpGives.val (w' := W) ?_ ⟨NewMem.refl _, rfl⟩; go_simp
    case s5 =>
      intro g W hSW hd
      try simp only [Nat.zero_add, Nat.reduceAdd] at hd ⊢
      have h4 : g 4 = _ := hd 4 (by decide) (by kernel_rfl)
      with_reducible refine OpGives.pre_reads [(16, 4)] 41 ?_ ?_ ?_
      · rfl
      · kernel_rfl
      simp only [List.map_cons, List.map_nil]
      refine OpGives.call (f := 77) (args := #[.int .i64 (record : Int), .int .i64 ((4 : Nat) : Int)]) (w' := W) (by go_simp) ((HBY.out 4 record hr (by decide) W).mono fun e w' ⟨he, hn⟩ => ⟨_, he, hn, rfl⟩)
    case s6 =>
      intro g W hSW hd
      try simp only [Nat.zero_add, Nat.reduceAdd] at hd ⊢
      have h2 : g 2 = _ := hd 2 (by decide) (by kernel_rfl)
      have h5 : g 5 = _ := hd 5 (by decide) (by kernel_rfl)
      with_reducible refine OpGives.pre_reads [(14, 2), (17, 5)] 41 ?_ ?_ ?_
      · rfl
      · kernel_rfl
      simp only [List.map_cons, List.map_nil]
      refine OpGives.val (w' := W) ?_ ⟨NewMem.refl _, rfl⟩; go_simp; rw [if_neg (by simp only [List.length_append, beL_len]; omega), str_app]
    case s7 =>
      intro g W hSW hd
      try simp only [Nat.zero_add, Nat.reduceAdd] at hd ⊢
      with_reducible refine OpGives.pre_reads [] 41 ?_ ?_ ?_
      · rfl
      · kernel_rfl
      simp only [List.map_cons, List.map_nil]
      refine OpGives.val (w' := W) ?_ ⟨NewMem.refl _, rfl⟩
      go_simp
      try with_reducible rfl
    case s8 =>
      intro g W hSW hd
      try simp only [Nat.zero_add, Nat.reduceAdd] at hd ⊢
      have h7 : g 7 = _ := hd 7 (by decide) (by kernel_rfl)
      with_reducible refine OpGives.pre_reads [(19, 7)] 41 ?_ ?_ ?_
      · rfl
      · kernel_rfl
      simp only [List.map_cons, List.map_nil]
      have c2 := (HC.out W hSW).2.2.1; refine OpGives.val (w' := W) ?_ ⟨NewMem.refl _, rfl⟩; go_simp
    case s9 =>
      intro g W hSW hd
      try simp only [Nat.zero_add, Nat.reduceAdd] at hd ⊢
      have h8 : g 8 = _ := hd 8 (by decide) (by kernel_rfl)
      with_reducible refine OpGives.pre_reads [(20, 8)] 41 ?_ ?_ ?_
      · rfl
      · kernel_rfl
      simp only [List.map_cons, List.map_nil]
      refine OpGives.call (f := 77) (args := #[.int .i64 (part : Int), .int .i64 ((2 : Nat) : Int)]) (w' := W) (by go_simp) ((HBY.out 2 part hp (by decide) W).mono fun e w' ⟨he, hn⟩ => ⟨_, he, hn, rfl⟩)
    case s10 =>
      intro g W hSW hd
      try simp only [Nat.zero_add, Nat.reduceAdd] at hd ⊢
      have h6 : g 6 = _ := hd 6 (by decide) (by kernel_rfl)
      have h9 : g 9 = _ := hd 9 (by decide) (by kernel_rfl)
      with_reducible refine OpGives.pre_reads [(18, 6), (21, 9)] 41 ?_ ?_ ?_
      · rfl
      · kernel_rfl
      simp only [List.map_cons, List.map_nil]
      refine OpGives.val (w' := W) ?_ ⟨NewMem.refl _, rfl⟩; go_simp; rw [if_neg (by simp only [List.length_append, beL_len]; omega), str_app]; simp only [List.append_assoc]
    case s11 =>
      intro g W hSW hd
      try simp only [Nat.zero_add, Nat.reduceAdd] at hd ⊢
      with_reducible refine OpGives.pre_reads [] 41 ?_ ?_ ?_
      · rfl
      · kernel_rfl
      simp only [List.map_cons, List.map_nil]
      refine OpGives.val (w' := W) ?_ ⟨NewMem.refl _, rfl⟩
      go_simp
      try with_reducible rfl
    case s12 =>
      intro g W hSW hd
      try simp only [Nat.zero_add, Nat.reduceAdd] at hd ⊢
      have h11 : g 11 = _ := hd 11 (by decide) (by kernel_rfl)
      with_reducible refine OpGives.pre_reads [(23, 11)] 41 ?_ ?_ ?_
      · rfl
      · kernel_rfl
      simp only [List.map_cons, List.map_nil]
      refine OpGives.call (f := 77) (args := #[.int .i64 (c : Int), .int .i64 ((1 : Nat) : Int)]) (w' := W) (by go_simp) ((HBY.out 1 c (by omega) (by decide) W).mono fun e w' ⟨he, hn⟩ => ⟨_, he, hn, rfl⟩)
    case s13 =>
      intro g W hSW hd
      try simp only [Nat.zero_add, Nat.reduceAdd] at hd ⊢
      have h10 : g 10 = _ := hd 10 (by decide) (by kernel_rfl)
      have h12 : g 12 = _ := hd 12 (by decide) (by kernel_rfl)
      with_reducible refine OpGives.pre_reads [(22, 10), (24, 12)] 41 ?_ ?_ ?_
      · rfl
      · kernel_rfl
      simp only [List.map_cons, List.map_nil]
      refine OpGives.val (w' := W) ?_ ⟨NewMem.refl _, rfl⟩; go_simp; rw [if_neg (by simp only [List.length_append, beL_len]; omega), str_app]; simp only [List.append_assoc]
    case s14 =>
      intro g W hSW hd
      try simp only [Nat.zero_add, Nat.reduceAdd] at hd ⊢
      with_reducible refine OpGives.pre_reads [] 41 ?_ ?_ ?_
      · rfl
      · kernel_rfl
      simp only [List.map_cons, List.map_nil]
      refine OpGives.val (w' := W) ?_ ⟨NewMem.refl _, rfl⟩
      go_simp
      try with_reducible rfl
    case s15 =>
      intro g W hSW hd
      try simp only [Nat.zero_add, Nat.reduceAdd] at hd ⊢
      have h14 : g 14 = _ := hd 14 (by decide) (by kernel_rfl)
      with_reducible refine OpGives.pre_reads [(26, 14)] 41 ?_ ?_ ?_
      · rfl
      · kernel_rfl
      simp only [List.map_cons, List.map_nil]
      have c4 := (HC.out W hSW).2.2.2.2; refine OpGives.val (w' := W) ?_ ⟨NewMem.refl _, rfl⟩; go_simp
    case s16 =>
      intro g W hSW hd
      try simp only [Nat.zero_add, Nat.reduceAdd] at hd ⊢
      have h13 : g 13 = _ := hd 13 (by decide) (by kernel_rfl)
      have h15 : g 15 = _ := hd 15 (by decide) (by kernel_rfl)
      with_reducible refine OpGives.pre_reads [(25, 13), (27, 15)] 41 ?_ ?_ ?_
      · rfl
      · kernel_rfl
      simp only [List.map_cons, List.map_nil]
      refine OpGives.val (w' := W) ?_ ⟨NewMem.refl _, rfl⟩; go_simp; rw [if_neg (by simp only [List.length_append, beL_len]; omega), str_app]; simp only [List.append_assoc]
    case s17 =>
      intro g W hSW hd
      try simp only [Nat.zero_add, Nat.reduceAdd] at hd ⊢
      with_reducible refine OpGives.pre_reads [] 41 ?_ ?_ ?_
      · rfl
      · kernel_rfl
      simp only [List.map_cons, List.map_nil]
      refine OpGives.val (w' := W) ?_ ⟨NewMem.refl _, rfl⟩
      go_simp
      try with_reducible rfl
    case s18 =>
      intro g W hSW hd
      try simp only [Nat.zero_add, Nat.reduceAdd] at hd ⊢
      have h17 : g 17 = _ := hd 17 (by decide) (by kernel_rfl)
      with_reducible refine OpGives.pre_reads [(29, 17)] 41 ?_ ?_ ?_
      · rfl
      · kernel_rfl
      simp only [List.map_cons, List.map_nil]
      have c4 := (HC.out W hSW).2.2.2.2; refine OpGives.val (w' := W) ?_ ⟨NewMem.refl _, rfl⟩; go_simp
    case s19 =>
      intro g W hSW hd
      try simp only [Nat.zero_add, Nat.reduceAdd] at hd ⊢
      have h18 : g 18 = _ := hd 18 (by decide) (by kernel_rfl)
      with_reducible refine OpGives.pre_reads [(30, 18)] 41 ?_ ?_ ?_
      · rfl
      · kernel_rfl
      simp only [List.map_cons, List.map_nil]
      refine OpGives.val (w' := W) ?_ ⟨NewMem.refl _, rfl⟩
      go_simp
      try with_reducible rfl
    case s20 =>
      intro g W hSW hd
      try simp only [Nat.zero_add, Nat.reduceAdd] at hd ⊢
      have h19 : g 19 = _ := hd 19 (by decide) (by kernel_rfl)
      with_reducible refine OpGives.pre_reads [(31, 19)] 41 ?_ ?_ ?_
      · rfl
      · kernel_rfl
      simp only [List.map_cons, List.map_nil]
      refine OpGives.val (w' := W) ?_ ⟨NewMem.refl _, rfl⟩; go_simp; rw [IntKind.wrap_i64]; omega
    case s21 =>
      intro g W hSW hd
      try simp only [Nat.zero_add, Nat.reduceAdd] at hd ⊢
      have h20 : g 20 = _ := hd 20 (by decide) (by kernel_rfl)
      with_reducible refine OpGives.pre_reads [(32, 20)] 41 ?_ ?_ ?_
      · rfl
      · kernel_rfl
      simp only [List.map_cons, List.map_nil]
      have hmk := run_make_row' (P := Tryd.prog) 80 5 (.int .u8 0) 1 Tryd.underlying80 info_byte rfl .i64 .i64 (51 - s.length) (by omega) (by omega) W; rw [← h20] at hmk; exact OpGives.val (v := .slice (some ⟨W.heap.size, 0, none⟩) (51 - s.length) (51 - s.length)) (w' := W.alloc (.cells (madeCells #[.int .u8 0] (51 - s.length)) 5)) (exec_makeSlice _ _ _ rfl hmk) ⟨NewMem.alloc _ _, W.heap.size, rfl, heap_alloc_last _ _⟩
    case s22 =>
      intro g W hSW hd
      try simp only [Nat.zero_add, Nat.reduceAdd] at hd ⊢
      have h21 := hd 21 (by decide) (by kernel_rfl)
      change (zerosF (51 - s.length)).p (g 21) W at h21
      with_reducible refine OpGives.pre_reads [(33, 21)] 41 ?_ ?_ ?_
      · rfl
      · kernel_rfl
      simp only [List.map_cons, List.map_nil]
      obtain ⟨kb, e21, hcell⟩ := h21; rw [e21]; have hown := zeros_own W kb (51 - s.length) hm1 hcell; rw [← HZ.out] at hown; have hcv := own_string (P := Tryd.prog) Tryd.underlying80 Tryd.underlying5 Tryd.underlying9 hown; rw [str_ints] at hcv; refine OpGives.val (w' := W) ?_ ⟨NewMem.refl _, rfl⟩; go_simp
    case s23 =>
      intro g W hSW hd
      try simp only [Nat.zero_add, Nat.reduceAdd] at hd ⊢
      have h16 : g 16 = _ := hd 16 (by decide) (by kernel_rfl)
      have h22 : g 22 = _ := hd 22 (by decide) (by kernel_rfl)
      with_reducible refine OpGives.pre_reads [(28, 16), (34, 22)] 41 ?_ ?_ ?_
      · rfl
      · kernel_rfl
      simp only [List.map_cons, List.map_nil]
      refine OpGives.val (w' := W) ?_ ⟨NewMem.refl _, rfl⟩; go_simp; rw [if_neg (by simp only [List.length_append, beL_len]; omega), str_app, HHD.out]; simp only [List.append_assoc]
    case hS => exact fun a c h k => NewMem.trans h k
    case h0 => exact below_drewN' (n := 1) (Below.refl _ _)
    case fin =>
      intro v W hSW hf
      have h23 : v 23 = _ := hf 23 (Nat.lt_of_lt_of_eq (by decide : 23 < 24) rfl)
      have HSW := Lib.hid hSW
      clear hf hSW
      generalize hF : Ord.pre _ _ v _ = F
      rw [Ord.pre_lit [some 12, some 13, some 14, some 15, some 16, some 17, some 18, some 19, some 20, some 21, some 22, some 23, some 24, some 25, some 26, some 27, some 28, some 29, some 30, some 31, some 32, some 33, some 34, some 35]
        (by kernel_rfl)] at hF
      simp only [Ord.puts, Nat.zero_add, Nat.reduceAdd] at hF
      subst hF
      rw [h23]
      clear h23
      refine any_one (i := 24) (by kernel_rfl) (wpOp_value (v := .string ⟨HD.toArray⟩) (w' := W) rfl rfl (by go_simp) ?_)
      refine wpAny_done (by kernel_rfl) ?_ _
      try simp only [List.getElem_toArray, List.getElem_cons_succ, List.getElem_cons_zero]
      go_frame
      go_wp2_with fail
      refine (HWT.out W).mono ?_
      rintro e w' ⟨rfl, rfl⟩
      have hb2 := HBY.out 2 (weighL HD) (by omega) (by decide) w'
      have HB2 := Lib.hid hb2
      clear hb2
      go_wp2_with fail
      refine HB2.out.mono ?_
      rintro e W2 ⟨rfl, hn2⟩
      have HF := Lib.hid (HN1.out.trans (HSW.out.trans hn2))
      have hcl : ¬ (9223372036854775807 < HD.length + (beL 2 (weighL HD)).length) := by rw [HHL.out, beL_len]; omega
      clear hn2
      go_wp2_with fail
      go_ret
      exact ⟨by rw [← str_app]; rfl, HF.out⟩
  | false =>
    go_enter Tryd.func67, Tryd.ntmps67
    go_wp2_with fail
    rw [← HW1.out]
    first | rw [HCT.out rfl] | rw [HCT.out trivial] | rw [HCF.out rfl] | rw [HCF.out trivial]
    clear h3 h4
    refine' wp_region_facts (S := (NewMem W1)) (R := NewMem) [eqF _ _, eqF _ (.int .i64 (life : Int)), eqF _ (.string ⟨(beL 4 life).toArray⟩), eqF _ _, eqF _ (.int .i64 (record : Int)), eqF _ (.string ⟨(beL 4 record).toArray⟩), eqF _ (.string ⟨(beL 4 life ++ beL 4 record).toArray⟩), eqF _ _, eqF _ (.int .i64 (part : Int)), eqF _ (.string ⟨(beL 2 part).toArray⟩), eqF _ (.string ⟨(beL 4 life ++ beL 4 record ++ beL 2 part).toArray⟩), eqF _ (.int .i64 (c : Int)), eqF _ (.string ⟨(beL 1 c).toArray⟩), eqF _ (.string ⟨(beL 4 life ++ beL 4 record ++ beL 2 part ++ beL 1 c).toArray⟩), eqF _ _, eqF _ (.string ⟨s.toArray⟩), eqF _ (.string ⟨(beL 4 life ++ beL 4 record ++ beL 2 part ++ beL 1 c ++ s).toArray⟩), eqF _ _, eqF _ (.string ⟨s.toArray⟩), eqF _ (.int .i64 (s.length : Int)), eqF _ (.int .i64 ((51 - s.length : Nat) : Int)), zerosF (51 - s.length), eqF _ (.string ⟨Z.toArray⟩), eqF _ (.string ⟨HD.toArray⟩)] (by kernel_rfl) (by kernel_rfl) ?hS ?h0 (Ord.steps_cons ?s0 (Ord.steps_cons ?s1 (Ord.steps_cons ?s2 (Ord.steps_cons ?s3 (Ord.steps_cons ?s4 (Ord.steps_cons ?s5 (Ord.steps_cons ?s6 (Ord.steps_cons ?s7 (Ord.steps_cons ?s8 (Ord.steps_cons ?s9 (Ord.steps_cons ?s10 (Ord.steps_cons ?s11 (Ord.steps_cons ?s12 (Ord.steps_cons ?s13 (Ord.steps_cons ?s14 (Ord.steps_cons ?s15 (Ord.steps_cons ?s16 (Ord.steps_cons ?s17 (Ord.steps_cons ?s18 (Ord.steps_cons ?s19 (Ord.steps_cons ?s20 (Ord.steps_cons ?s21 (Ord.steps_cons ?s22 (Ord.steps_cons ?s23 (Ord.steps_nil))))))))))))))))))))))))) ?fin
    case s0 =>
      intro g W hSW hd
      try simp only [Nat.zero_add, Nat.reduceAdd] at hd ⊢
      with_reducible refine OpGives.pre_reads [] 41 ?_ ?_ ?_
      · rfl
      · kernel_rfl
      simp only [List.map_cons, List.map_nil]
      refine OpGives.val (w' := W) ?_ ⟨NewMem.refl _, rfl⟩
      go_simp
      try with_reducible rfl
    case s1 =>
      intro g W hSW hd
      try simp only [Nat.zero_add, Nat.reduceAdd] at hd ⊢
      have h0 : g 0 = _ := hd 0 (by decide) (by kernel_rfl)
      with_reducible refine OpGives.pre_reads [(12, 0)] 41 ?_ ?_ ?_
      · rfl
      · kernel_rfl
      simp only [List.map_cons, List.map_nil]
      have c0 := (HC.out W hSW).1; refine OpGives.val (w' := W) ?_ ⟨NewMem.refl _, rfl⟩; go_simp
    case s2 =>
      intro g W hSW hd
      try simp only [Nat.zero_add, Nat.reduceAdd] at hd ⊢
      have h1 : g 1 = _ := hd 1 (by decide) (by kernel_rfl)
      with_reducible refine OpGives.pre_reads [(13, 1)] 41 ?_ ?_ ?_
      · rfl
      · kernel_rfl
      simp only [List.map_cons, List.map_nil]
      refine OpGives.call (f := 77) (args := #[.int .i64 (life : Int), .int .i64 ((4 : Nat) : Int)]) (w' := W) (by go_simp) ((HBY.out 4 life hl (by decide) W).mono fun e w' ⟨he, hn⟩ => ⟨_, he, hn, rfl⟩)
    case s3 =>
      intro g W hSW hd
      try simp only [Nat.zero_add, Nat.reduceAdd] at hd ⊢
      with_reducible refine OpGives.pre_reads [] 41 ?_ ?_ ?_
      · rfl
      · kernel_rfl
      simp only [List.map_cons, List.map_nil]
      refine OpGives.val (w' := W) ?_ ⟨NewMem.refl _, rfl⟩
      go_simp
      try with_reducible rfl
    case s4 =>
      intro g W hSW hd
      try simp only [Nat.zero_add, Nat.reduceAdd] at hd ⊢
      have h3 : g 3 = _ := hd 3 (by decide) (by kernel_rfl)
      with_reducible refine OpGives.pre_reads [(15, 3)] 41 ?_ ?_ ?_
      · rfl
      · kernel_rfl
      simp only [List.map_cons, List.map_nil]
      have c1 := (HC.out W hSW).2.1; refine OpGives.val (w' := W) ?_ ⟨NewMem.refl _, rfl⟩; go_simp
    case s5 =>
      intro g W hSW hd
      try simp only [Nat.zero_add, Nat.reduceAdd] at hd ⊢
      have h4 : g 4 = _ := hd 4 (by decide) (by kernel_rfl)
      with_reducible refine OpGives.pre_reads [(16, 4)] 41 ?_ ?_ ?_
      · rfl
      · kernel_rfl
      simp only [List.map_cons, List.map_nil]
      refine OpGives.call (f := 77) (args := #[.int .i64 (record : Int), .int .i64 ((4 : Nat) : Int)]) (w' := W) (by go_simp) ((HBY.out 4 record hr (by decide) W).mono fun e w' ⟨he, hn⟩ => ⟨_, he, hn, rfl⟩)
    case s6 =>
      intro g W hSW hd
      try simp only [Nat.zero_add, Nat.reduceAdd] at hd ⊢
      have h2 : g 2 = _ := hd 2 (by decide) (by kernel_rfl)
      have h5 : g 5 = _ := hd 5 (by decide) (by kernel_rfl)
      with_reducible refine OpGives.pre_reads [(14, 2), (17, 5)] 41 ?_ ?_ ?_
      · rfl
      · kernel_rfl
      simp only [List.map_cons, List.map_nil]
      refine OpGives.val (w' := W) ?_ ⟨NewMem.refl _, rfl⟩; go_simp; rw [if_neg (by simp only [List.length_append, beL_len]; omega), str_app]
    case s7 =>
      intro g W hSW hd
      try simp only [Nat.zero_add, Nat.reduceAdd] at hd ⊢
      with_reducible refine OpGives.pre_reads [] 41 ?_ ?_ ?_
      · rfl
      · kernel_rfl
      simp only [List.map_cons, List.map_nil]
      refine OpGives.val (w' := W) ?_ ⟨NewMem.refl _, rfl⟩
      go_simp
      try with_reducible rfl
    case s8 =>
      intro g W hSW hd
      try simp only [Nat.zero_add, Nat.reduceAdd] at hd ⊢
      have h7 : g 7 = _ := hd 7 (by decide) (by kernel_rfl)
      with_reducible refine OpGives.pre_reads [(19, 7)] 41 ?_ ?_ ?_
      · rfl
      · kernel_rfl
      simp only [List.map_cons, List.map_nil]
      have c2 := (HC.out W hSW).2.2.1; refine OpGives.val (w' := W) ?_ ⟨NewMem.refl _, rfl⟩; go_simp
    case s9 =>
      intro g W hSW hd
      try simp only [Nat.zero_add, Nat.reduceAdd] at hd ⊢
      have h8 : g 8 = _ := hd 8 (by decide) (by kernel_rfl)
      with_reducible refine OpGives.pre_reads [(20, 8)] 41 ?_ ?_ ?_
      · rfl
      · kernel_rfl
      simp only [List.map_cons, List.map_nil]
      refine OpGives.call (f := 77) (args := #[.int .i64 (part : Int), .int .i64 ((2 : Nat) : Int)]) (w' := W) (by go_simp) ((HBY.out 2 part hp (by decide) W).mono fun e w' ⟨he, hn⟩ => ⟨_, he, hn, rfl⟩)
    case s10 =>
      intro g W hSW hd
      try simp only [Nat.zero_add, Nat.reduceAdd] at hd ⊢
      have h6 : g 6 = _ := hd 6 (by decide) (by kernel_rfl)
      have h9 : g 9 = _ := hd 9 (by decide) (by kernel_rfl)
      with_reducible refine OpGives.pre_reads [(18, 6), (21, 9)] 41 ?_ ?_ ?_
      · rfl
      · kernel_rfl
      simp only [List.map_cons, List.map_nil]
      refine OpGives.val (w' := W) ?_ ⟨NewMem.refl _, rfl⟩; go_simp; rw [if_neg (by simp only [List.length_append, beL_len]; omega), str_app]; simp only [List.append_assoc]
    case s11 =>
      intro g W hSW hd
      try simp only [Nat.zero_add, Nat.reduceAdd] at hd ⊢
      with_reducible refine OpGives.pre_reads [] 41 ?_ ?_ ?_
      · rfl
      · kernel_rfl
      simp only [List.map_cons, List.map_nil]
      refine OpGives.val (w' := W) ?_ ⟨NewMem.refl _, rfl⟩
      go_simp
      try with_reducible rfl
    case s12 =>
      intro g W hSW hd
      try simp only [Nat.zero_add, Nat.reduceAdd] at hd ⊢
      have h11 : g 11 = _ := hd 11 (by decide) (by kernel_rfl)
      with_reducible refine OpGives.pre_reads [(23, 11)] 41 ?_ ?_ ?_
      · rfl
      · kernel_rfl
      simp only [List.map_cons, List.map_nil]
      refine OpGives.call (f := 77) (args := #[.int .i64 (c : Int), .int .i64 ((1 : Nat) : Int)]) (w' := W) (by go_simp) ((HBY.out 1 c (by omega) (by decide) W).mono fun e w' ⟨he, hn⟩ => ⟨_, he, hn, rfl⟩)
    case s13 =>
      intro g W hSW hd
      try simp only [Nat.zero_add, Nat.reduceAdd] at hd ⊢
      have h10 : g 10 = _ := hd 10 (by decide) (by kernel_rfl)
      have h12 : g 12 = _ := hd 12 (by decide) (by kernel_rfl)
      with_reducible refine OpGives.pre_reads [(22, 10), (24, 12)] 41 ?_ ?_ ?_
      · rfl
      · kernel_rfl
      simp only [List.map_cons, List.map_nil]
      refine OpGives.val (w' := W) ?_ ⟨NewMem.refl _, rfl⟩; go_simp; rw [if_neg (by simp only [List.length_append, beL_len]; omega), str_app]; simp only [List.append_assoc]
    case s14 =>
      intro g W hSW hd
      try simp only [Nat.zero_add, Nat.reduceAdd] at hd ⊢
      with_reducible refine OpGives.pre_reads [] 41 ?_ ?_ ?_
      · rfl
      · kernel_rfl
      simp only [List.map_cons, List.map_nil]
      refine OpGives.val (w' := W) ?_ ⟨NewMem.refl _, rfl⟩
      go_simp
      try with_reducible rfl
    case s15 =>
      intro g W hSW hd
      try simp only [Nat.zero_add, Nat.reduceAdd] at hd ⊢
      have h14 : g 14 = _ := hd 14 (by decide) (by kernel_rfl)
      with_reducible refine OpGives.pre_reads [(26, 14)] 41 ?_ ?_ ?_
      · rfl
      · kernel_rfl
      simp only [List.map_cons, List.map_nil]
      have c4 := (HC.out W hSW).2.2.2.2; refine OpGives.val (w' := W) ?_ ⟨NewMem.refl _, rfl⟩; go_simp
    case s16 =>
      intro g W hSW hd
      try simp only [Nat.zero_add, Nat.reduceAdd] at hd ⊢
      have h13 : g 13 = _ := hd 13 (by decide) (by kernel_rfl)
      have h15 : g 15 = _ := hd 15 (by decide) (by kernel_rfl)
      with_reducible refine OpGives.pre_reads [(25, 13), (27, 15)] 41 ?_ ?_ ?_
      · rfl
      · kernel_rfl
      simp only [List.map_cons, List.map_nil]
      refine OpGives.val (w' := W) ?_ ⟨NewMem.refl _, rfl⟩; go_simp; rw [if_neg (by simp only [List.length_append, beL_len]; omega), str_app]; simp only [List.append_assoc]
    case s17 =>
      intro g W hSW hd
      try simp only [Nat.zero_add, Nat.reduceAdd] at hd ⊢
      with_reducible refine OpGives.pre_reads [] 41 ?_ ?_ ?_
      · rfl
      · kernel_rfl
      simp only [List.map_cons, List.map_nil]
      refine OpGives.val (w' := W) ?_ ⟨NewMem.refl _, rfl⟩
      go_simp
      try with_reducible rfl
    case s18 =>
      intro g W hSW hd
      try simp only [Nat.zero_add, Nat.reduceAdd] at hd ⊢
      have h17 : g 17 = _ := hd 17 (by decide) (by kernel_rfl)
      with_reducible refine OpGives.pre_reads [(29, 17)] 41 ?_ ?_ ?_
      · rfl
      · kernel_rfl
      simp only [List.map_cons, List.map_nil]
      have c4 := (HC.out W hSW).2.2.2.2; refine OpGives.val (w' := W) ?_ ⟨NewMem.refl _, rfl⟩; go_simp
    case s19 =>
      intro g W hSW hd
      try simp only [Nat.zero_add, Nat.reduceAdd] at hd ⊢
      have h18 : g 18 = _ := hd 18 (by decide) (by kernel_rfl)
      with_reducible refine OpGives.pre_reads [(30, 18)] 41 ?_ ?_ ?_
      · rfl
      · kernel_rfl
      simp only [List.map_cons, List.map_nil]
      refine OpGives.val (w' := W) ?_ ⟨NewMem.refl _, rfl⟩
      go_simp
      try with_reducible rfl
    case s20 =>
      intro g W hSW hd
      try simp only [Nat.zero_add, Nat.reduceAdd] at hd ⊢
      have h19 : g 19 = _ := hd 19 (by decide) (by kernel_rfl)
      with_reducible refine OpGives.pre_reads [(31, 19)] 41 ?_ ?_ ?_
      · rfl
      · kernel_rfl
      simp only [List.map_cons, List.map_nil]
      refine OpGives.val (w' := W) ?_ ⟨NewMem.refl _, rfl⟩; go_simp; rw [IntKind.wrap_i64]; omega
    case s21 =>
      intro g W hSW hd
      try simp only [Nat.zero_add, Nat.reduceAdd] at hd ⊢
      have h20 : g 20 = _ := hd 20 (by decide) (by kernel_rfl)
      with_reducible refine OpGives.pre_reads [(32, 20)] 41 ?_ ?_ ?_
      · rfl
      · kernel_rfl
      simp only [List.map_cons, List.map_nil]
      have hmk := run_make_row' (P := Tryd.prog) 80 5 (.int .u8 0) 1 Tryd.underlying80 info_byte rfl .i64 .i64 (51 - s.length) (by omega) (by omega) W; rw [← h20] at hmk; exact OpGives.val (v := .slice (some ⟨W.heap.size, 0, none⟩) (51 - s.length) (51 - s.length)) (w' := W.alloc (.cells (madeCells #[.int .u8 0] (51 - s.length)) 5)) (exec_makeSlice _ _ _ rfl hmk) ⟨NewMem.alloc _ _, W.heap.size, rfl, heap_alloc_last _ _⟩
    case s22 =>
      intro g W hSW hd
      try simp only [Nat.zero_add, Nat.reduceAdd] at hd ⊢
      have h21 := hd 21 (by decide) (by kernel_rfl)
      change (zerosF (51 - s.length)).p (g 21) W at h21
      with_reducible refine OpGives.pre_reads [(33, 21)] 41 ?_ ?_ ?_
      · rfl
      · kernel_rfl
      simp only [List.map_cons, List.map_nil]
      obtain ⟨kb, e21, hcell⟩ := h21; rw [e21]; have hown := zeros_own W kb (51 - s.length) hm1 hcell; rw [← HZ.out] at hown; have hcv := own_string (P := Tryd.prog) Tryd.underlying80 Tryd.underlying5 Tryd.underlying9 hown; rw [str_ints] at hcv; refine OpGives.val (w' := W) ?_ ⟨NewMem.refl _, rfl⟩; go_simp
    case s23 =>
      intro g W hSW hd
      try simp only [Nat.zero_add, Nat.reduceAdd] at hd ⊢
      have h16 : g 16 = _ := hd 16 (by decide) (by kernel_rfl)
      have h22 : g 22 = _ := hd 22 (by decide) (by kernel_rfl)
      with_reducible refine OpGives.pre_reads [(28, 16), (34, 22)] 41 ?_ ?_ ?_
      · rfl
      · kernel_rfl
      simp only [List.map_cons, List.map_nil]
      refine OpGives.val (w' := W) ?_ ⟨NewMem.refl _, rfl⟩; go_simp; rw [if_neg (by simp only [List.length_append, beL_len]; omega), str_app, HHD.out]; simp only [List.append_assoc]
    case hS => exact fun a c h k => NewMem.trans h k
    case h0 => exact below_drewN' (n := 1) (Below.refl _ _)
    case fin =>
      intro v W hSW hf
      have h23 : v 23 = _ := hf 23 (Nat.lt_of_lt_of_eq (by decide : 23 < 24) rfl)
      have HSW := Lib.hid hSW
      clear hf hSW
      generalize hF : Ord.pre _ _ v _ = F
      rw [Ord.pre_lit [some 12, some 13, some 14, some 15, some 16, some 17, some 18, some 19, some 20, some 21, some 22, some 23, some 24, some 25, some 26, some 27, some 28, some 29, some 30, some 31, some 32, some 33, some 34, some 35]
        (by kernel_rfl)] at hF
      simp only [Ord.puts, Nat.zero_add, Nat.reduceAdd] at hF
      subst hF
      rw [h23]
      clear h23
      refine any_one (i := 24) (by kernel_rfl) (wpOp_value (v := .string ⟨HD.toArray⟩) (w' := W) rfl rfl (by go_simp) ?_)
      refine wpAny_done (by kernel_rfl) ?_ _
      try simp only [List.getElem_toArray, List.getElem_cons_succ, List.getElem_cons_zero]
      go_frame
      go_wp2_with fail
      refine (HWT.out W).mono ?_
      rintro e w' ⟨rfl, rfl⟩
      have hb2 := HBY.out 2 (weighL HD) (by omega) (by decide) w'
      have HB2 := Lib.hid hb2
      clear hb2
      go_wp2_with fail
      refine HB2.out.mono ?_
      rintro e W2 ⟨rfl, hn2⟩
      have HF := Lib.hid (HN1.out.trans (HSW.out.trans hn2))
      have hcl : ¬ (9223372036854775807 < HD.length + (beL 2 (weighL HD)).length) := by rw [HHL.out, beL_len]; omega
      clear hn2
      go_wp2_with fail
      go_ret
      exact ⟨by rw [← str_app]; rfl, HF.out⟩
theorem rlay_any (x : Sec) (hs : x.s.length ≤ 51) (hl : x.life < 9223372036854775808) (hr : x.record < 9223372036854775808) (hp : x.part < 9223372036854775808) (w : World) :
    Calls Tryd.prog 67 #[.agg (secCs (some x))] w fun e w' => e = .returned (.string ⟨(layN x).toArray⟩) ∧ NewMem w w' := by
  obtain ⟨life, record, part, last, s⟩ := x
  exact rlay_head life record part _ last s hs hl hr hp rfl w
end Go.Proofs.YteljihpheffjnaaDoor.Tape
/- The tape's calls that come in: few, opened. -/
namespace Go.Proofs.YteljihpheffjnaaDoor.Drum
open Go.RowKit Go.Proofs.YteljihpheffjnaaDoor.Ord Go.Proofs.YteljihpheffjnaaDoorW.PrintWords Go.Proofs.YteljihpheffjnaaDoor.Base
set_option linter.unusedVariables false
set_option linter.unusedSimpArgs false
attribute [local irreducible] OpGives

/-- A call, in plain terms. -/
structure ActV where
  kind : Int
  i : Int
  s : ByteArray
  ka : Option Addr
  kn : Nat
  kc : Nat
  zs : List Int
def ActV.cells (a : ActV) : Array Value := #[.int .i64 a.kind, .int .i64 a.i, .string a.s, .slice a.ka a.kn a.kc]
/-- What a call is allowed to be, in memory. -/
structure ActOk (B : Nat) (w : World) (a : ActV) : Prop where
  i : a.i ≤ 9223372036854775807
  s : a.s.size ≤ 1000000
  ints : IntsAt w a.ka a.kn a.zs
  old : 0 < a.kn → ∀ ad, a.ka = some ad → ad.block < B
theorem IntsAt.later {B : Nat} {w W : World} {l : List Thing} {a : Option Addr} {n : Nat} {zs : List Int} (h : IntsAt w a n zs) (ho : 0 < n → ∀ ad, a = some ad → ad.block < B) (hs : Sep B w W l) : IntsAt W a n zs := by
  obtain ⟨h1, h2, h3⟩ := h
  refine ⟨h1, h2, fun h0 => ?_⟩
  obtain ⟨ad, e, hc⟩ := h3 h0
  refine ⟨ad, e, fun j z hz => ?_⟩
  have hb : (ad.add j).block = ad.block := by unfold Addr.add; split <;> rfl
  exact (hs.below.cell (p := ad.add j) (by rw [hb]; exact ho h0 ad e)).trans (hc j z hz)
/-- The numbers of a slice that came in. -/
def IntsIn (w : World) (a : Option Addr) (n : Nat) (zs : List Int) : Prop :=
  zs.length = n ∧ (0 < n → ∃ ad : Addr, a = some ad ∧ ∀ j z, zs[j]? = some z → w.cell? (ad.add j) = some (.int .i64 z))
/-- A call that came in. -/
structure ActIn (B : Nat) (w : World) (a : ActV) : Prop where
  i : a.i ≤ 9223372036854775807
  s : a.s.size ≤ maxLen
  n : a.kn ≤ maxLen
  ints : IntsIn w a.ka a.kn a.zs
  old : 0 < a.kn → ∀ ad, a.ka = some ad → ad.block < B
/-- Calls that came in. -/
structure ActsIn (B : Nat) (w : World) (a : Option Addr) (n : Nat) (acts : List ActV) : Prop where
  len : acts.length = n
  max : n ≤ maxLen
  all : ∀ v ∈ acts, ActIn B w v
  cells : 0 < n → ∃ ad : Addr, a = some ad ∧ ad.block < B ∧ ∀ j v, acts[j]? = some v → w.cell? (ad.add (j * 4)) = some (.int .i64 v.kind) ∧ w.cell? (ad.add (j * 4 + 1)) = some (.int .i64 v.i) ∧ w.cell? (ad.add (j * 4 + 2)) = some (.string v.s) ∧ w.cell? (ad.add (j * 4 + 3)) = some (.slice v.ka v.kn v.kc)
def ActV.small (a : ActV) : Bool := decide (a.s.size ≤ 600) && decide (a.kn ≤ 100)
def fewB (acts : List ActV) : Bool := decide (acts.length ≤ 100) && acts.all ActV.small
theorem ActIn.ok {B : Nat} {w : World} {a : ActV} (h : ActIn B w a) (hs : a.small = true) : ActOk B w a := by
  unfold ActV.small at hs
  simp only [Bool.and_eq_true, decide_eq_true_eq] at hs
  exact ⟨h.i, by omega, ⟨h.ints.1, by omega, h.ints.2⟩, h.old⟩
theorem add_next (ad : Addr) (m j : Nat) : ad.add (m + (j + 1)) = ⟨(ad.add m).block, (ad.add m).off + (j + 1), none⟩ := by
  unfold Addr.add
  by_cases h : m = 0
  · subst h; simp
  · simp [h]; omega
theorem add_block (ad : Addr) (j : Nat) : (ad.add j).block = ad.block := by unfold Addr.add; split <;> rfl
set_option maxRecDepth 100000 in
set_option maxHeartbeats 8000000 in
theorem few_at (B : Nat) (a : Option Addr) (n cap : Nat) (acts : List ActV) (w : World) (h : ActsIn B w a n acts) :
    Calls Tryd.prog 20 #[.slice a n cap] w fun e w' => e = .returned (.bool (fewB acts)) ∧ w = w' := by
  have hmax := h.max
  unfold maxLen at hmax
  have H := Lib.hid h
  obtain ⟨t, ht⟩ : ∃ t, t = fewB acts := ⟨_, rfl⟩
  rw [← ht]
  have HT := Lib.hid ht
  clear h ht
  by_cases hn : 100 < n
  · have hn' : (n : Int) > 100 := by omega
    have hf : t = false := by rw [HT.out]; unfold fewB; rw [decide_eq_false (by have := H.out.len; omega)]; rfl
    subst hf
    go_enter Tryd.func20, Tryd.ntmps20
    go_wp2
    go_ret
    exact ⟨rfl, rfl⟩
  · have hn' : ¬ (n : Int) > 100 := by omega
    go_enter Tryd.func20, Tryd.ntmps20
    go_wp2_with fail
    go_loop [3] (fun i => ∃ k : Nat, k ≤ n ∧ i = .int .i64 (k : Int) ∧ Hid ((acts.take k).all ActV.small = true)) (fun i => n - (intOf i).toNat)
    case atStart => exact ⟨0, Nat.zero_le _, rfl, Lib.hid rfl⟩
    case round =>
      obtain ⟨k, hk, rfl, hall⟩ := hrel
      by_cases hlt : k < n
      · obtain ⟨ad, rfl, hb, hcs⟩ := H.out.cells (by omega)
        obtain ⟨v, hv⟩ : ∃ v, acts[k]? = some v := ⟨_, List.getElem?_eq_getElem (by have := H.out.len; omega)⟩
        obtain ⟨c0, c1, c2, c3⟩ := hcs k v hv
        rw [add_next] at c1 c2 c3
        have hvin := H.out.all v (List.mem_of_getElem? hv)
        have hsn : (acts.take (k + 1)).all ActV.small = ((acts.take k).all ActV.small && v.small) := by rw [List.take_add_one, hv]; simp
        have hs1 := hvin.s
        have hs2 := hvin.n
        unfold maxLen at hs1 hs2
        have HV := Lib.hid hv
        have HSN := Lib.hid hsn
        clear hcs hvin hsn hv
        by_cases g1 : 600 < v.s.size
        · have g1' : (v.s.size : Int) > 600 := by omega
          have hf : t = false := by
            rw [HT.out]; unfold fewB
            have hm : v ∈ acts := List.mem_of_getElem? HV.out
            have : acts.all ActV.small = false := by
              rw [List.all_eq_false]; exact ⟨v, hm, by unfold ActV.small; rw [decide_eq_false (by omega)]; simp⟩
            rw [this, Bool.and_false]
          subst hf
          go_wp2_with fail
          go_ret
          exact ⟨rfl, rfl⟩
        · have g1' : ¬ (v.s.size : Int) > 600 := by omega
          by_cases g2 : 100 < v.kn
          · have g2' : (v.kn : Int) > 100 := by omega
            have hf : t = false := by
              rw [HT.out]; unfold fewB
              have hm : v ∈ acts := List.mem_of_getElem? HV.out
              have : acts.all ActV.small = false := by
                rw [List.all_eq_false]; exact ⟨v, hm, by unfold ActV.small; rw [decide_eq_false (show ¬ v.kn ≤ 100 by omega)]; simp⟩
              rw [this, Bool.and_false]
            subst hf
            go_wp2_with fail
            go_ret
            exact ⟨rfl, rfl⟩
          · have g2' : ¬ (v.kn : Int) > 100 := by omega
            have hsm : (acts.take (k + 1)).all ActV.small = true := by
              rw [HSN.out, hall.out]; unfold ActV.small; rw [decide_eq_true (by omega), decide_eq_true (by omega)]; rfl
            have HSM := Lib.hid hsm
            clear hsm
            go_wp2_with fail
            go_round
            case rel => exact ⟨k + 1, by omega, by go_num, HSM⟩
            case measure => simp [intOf]; omega
      · have hf : t = true := by
          rw [HT.out]; unfold fewB
          have := hall.out
          rw [List.take_of_length_le (by have := H.out.len; omega)] at this
          rw [this, decide_eq_true (by have := H.out.len; omega)]; rfl
        subst hf
        go_wp2_with fail
        go_ret
        exact ⟨rfl, rfl⟩
open Go.ChangeShapes Go.WideShapes Go.Deep
set_option linter.unusedVariables false
set_option linter.unusedSimpArgs false

section
variable {H : Type} {enc : TypeId × Value → H} {P : Program} {w : World} {base : Nat} {spare : Nat → Bool} {held : Bool}
theorem open_slice_fields {t e : TypeId} {fs : Array Field} {fuel : Nat} {cs : List Value} {x : DataW H × List MemPlace} (ht : P.underlying t = some (.slice e)) (he : P.underlying e = some (.struct fs))
    (hone : oneCellFields P fs = true) (hC : P.cellsOf e = fs.size) (h : DataW.trod enc P w base spare held fuel t cs = some x) :
    (cs = [.slice none 0 0] ∧ x = (.nil, [])) ∨
    ∃ (a : Addr) (len cap m : Nat) (D : Nat → DataW H) (Pl : Nat → List MemPlace), cs = [.slice (some a) len cap] ∧ base ≤ a.block ∧ len ≤ cap ∧ cap ≤ maxLen ∧ m = (if spare a.block then cap else len) ∧
      x = (.slice ((List.range len).map D) ((List.range (m - len)).map fun j => D (len + j)), MemPlace.row a (m * fs.size) ++ (List.range m).flatMap Pl) ∧
      ∀ i, i < m → ∃ (ys : List (DataW H × List MemPlace)) (n : Nat), D i = .agg (ys.map (·.1)) ∧ Pl i = ys.flatMap (·.2) ∧ ys.length = fs.size ∧
        ∀ (j : Nat) (f : Field), fs[j]? = some f → ∃ (v : Value) (y : DataW H × List MemPlace), w.cell? (a.add (i * fs.size + j)) = some v ∧ ys[j]? = some y ∧ DataW.trod enc P w base spare held n f.type [v] = some y := by
  rcases open_slice ht h with h0 | ⟨a, len, cap, m, n, D, Pl, hcs, hb, hl, hm, hmm, hx, hi⟩
  · exact .inl h0
  · refine .inr ⟨a, len, cap, m, D, Pl, hcs, hb, hl, hm, hmm, by rw [hC] at hx; exact hx, fun i him => ?_⟩
    obtain ⟨cs', hc, ht'⟩ := hi i him
    rw [hC] at hc
    obtain ⟨ys, n', hn', hy, hlen, hyl, hf⟩ := DataW.trod_struct he ht'
    obtain ⟨_, hcl, hat⟩ := World.cells?_some hc
    simp only [Prod.mk.injEq] at hy
    refine ⟨ys, n', hy.1, hy.2, hyl, fun j f hj => ?_⟩
    obtain ⟨ho, hk⟩ := hone_of hone j f hj
    have hjl : j < fs.size := (Array.getElem?_eq_some_iff.1 hj).1
    have hcell := hat j hjl
    have hv : cs'[j]? = some (cs'[j]'(by omega)) := List.getElem?_eq_getElem (by omega)
    have h1 := hf j f hj
    rw [ho, hk] at h1
    have hone' : (cs'.drop j).take 1 = [cs'[j]'(by omega)] := by
      rw [List.drop_eq_getElem_cons (by omega)]
      rfl
    rw [hone'] at h1
    have hys : ys[j]? = some (ys[j]'(by omega)) := List.getElem?_eq_getElem (by omega)
    refine ⟨_, _, ?_, hys, h1.trans hys⟩
    rw [← Go.Deep.add_add, hcell, hv]
end

theorem choose_list {α : Type} (P : Nat → α → Prop) : ∀ n, (∀ i, i < n → ∃ v, P i v) → ∃ l : List α, l.length = n ∧ ∀ i v, l[i]? = some v → P i v
  | 0, _ => ⟨[], rfl, fun i v h => by simp at h⟩
  | n + 1, h => by
    obtain ⟨l, hl, hp⟩ := choose_list P n (fun i hi => h i (by omega))
    obtain ⟨v, hv⟩ := h n (by omega)
    refine ⟨l ++ [v], by simp [hl], fun i u hu => ?_⟩
    rcases Nat.lt_or_ge i l.length with hlt | hge
    · rw [List.getElem?_append_left hlt] at hu; exact hp i u hu
    · rw [List.getElem?_append_right hge] at hu
      have hi : i - l.length = 0 := by
        rcases Nat.eq_zero_or_pos (i - l.length) with e | e
        · exact e
        · rw [List.getElem?_eq_none (by simp; omega)] at hu; cases hu
      rw [hi] at hu
      simp at hu
      subst hu
      have : i = n := by omega
      rw [this]; exact hv
theorem wf_le {n : Int} (h : (Lit.int .i64 n).wf = true) : n ≤ 9223372036854775807 := by
  simp only [Lit.wf, Bool.and_eq_true, decide_eq_true_eq] at h
  exact Int.le_trans h.2 (by decide)
section
variable {H : Type} {enc : TypeId × Value → H} {W : World} {held : Bool}
theorem open_keep {fuel : Nat} {cs : List Value} {x : DataW H × List MemPlace} (h : DataW.trod enc Tryd.prog W 0 (fun _ => true) held fuel 53 cs = some x) :
    ∃ a n c zs, cs = [.slice a n c] ∧ n ≤ maxLen ∧ IntsIn W a n zs ∧ (0 < n → ∀ ad, a = some ad → ad.block < W.heap.size) := by
  rcases open_ints Tryd.underlying53 Tryd.underlying3 (by kernel_rfl) h with ⟨rfl, _⟩ | ⟨a, len, cap, zs, rfl, hb, hl, hm, hz, _, hcells, _⟩
  · exact ⟨none, 0, 0, [], rfl, by decide, ⟨rfl, fun h => absurd h (by decide)⟩, fun h => absurd h (by decide)⟩
  · have hzl : zs.length = cap := by simpa using hz
    refine ⟨some a, len, cap, zs.take len, rfl, by omega, ⟨by simp; omega, fun _ => ⟨a, rfl, fun j z hj => ?_⟩⟩, fun h0 ad e => ?_⟩
    · have hjl : j < len := by
        rcases Nat.lt_or_ge j len with h | h
        · exact h
        · rw [List.getElem?_eq_none (by simp; omega)] at hj; cases hj
      have hc := hcells j (by omega)
      rw [List.getElem?_take, if_pos hjl] at hj
      rw [hc, List.getD_eq_getElem?_getD, hj]; rfl
    · injection e with e; subst e
      have hc := hcells 0 (by omega)
      have := block_lt_of_cell hc
      rwa [add_block] at this
theorem open_acts {fuel : Nat} {cs : List Value} {x : DataW H × List MemPlace} (h : DataW.trod enc Tryd.prog W 0 (fun _ => true) held fuel 43 cs = some x) :
    ∃ a n c acts, cs = [.slice a n c] ∧ ActsIn W.heap.size W a n acts := by
  rcases open_slice_fields Tryd.underlying43 Tryd.underlying55 (by kernel_rfl) (by kernel_rfl) h with ⟨rfl, _⟩ | ⟨a, len, cap, m, D, Pl, rfl, hb, hl, hm, hmm, _, hi⟩
  · exact ⟨none, 0, 0, [], rfl, ⟨rfl, by decide, fun v hv => (by cases hv), fun h => absurd h (by decide)⟩⟩
  · have hmc : m = cap := by simpa using hmm
    obtain ⟨acts, hal, hap⟩ := choose_list (fun i v => ActIn W.heap.size W v ∧ W.cell? (a.add (i * 4)) = some (.int .i64 v.kind) ∧ W.cell? (a.add (i * 4 + 1)) = some (.int .i64 v.i) ∧ W.cell? (a.add (i * 4 + 2)) = some (.string v.s) ∧ W.cell? (a.add (i * 4 + 3)) = some (.slice v.ka v.kn v.kc)) len (fun i hil => by
      obtain ⟨ys, nn, _, _, _, hf⟩ := hi i (by omega)
      obtain ⟨v0, y0, c0, _, t0⟩ := hf 0 _ rfl
      obtain ⟨v1, y1, c1, _, t1⟩ := hf 1 _ rfl
      obtain ⟨v2, y2, c2, _, t2⟩ := hf 2 _ rfl
      obtain ⟨v3, y3, c3, _, t3⟩ := hf 3 _ rfl
      obtain ⟨n0, e0, _, _⟩ := DataW.trod_int Tryd.underlying3 t0
      obtain ⟨n1, e1, _, w1⟩ := DataW.trod_int Tryd.underlying3 t1
      obtain ⟨s2, e2, _, w2⟩ := DataW.trod_string Tryd.underlying9 t2
      obtain ⟨ka, kn, kc, zs, e3, hkn, hints, hold⟩ := open_keep t3
      injection e0 with e0 _
      injection e1 with e1 _
      injection e2 with e2 _
      injection e3 with e3 _
      subst e0; subst e1; subst e2; subst e3
      exact ⟨⟨n0, n1, s2, ka, kn, kc, zs⟩, ⟨wf_le w1, w2, hkn, hints, hold⟩, c0, c1, c2, c3⟩)
    refine ⟨some a, len, cap, acts, rfl, ⟨hal, by omega, fun v hv => ?_, fun h0 => ⟨a, rfl, ?_, fun j v hj => (hap j v hj).2⟩⟩⟩
    · obtain ⟨i, hi⟩ := List.getElem?_of_mem hv
      exact (hap i v hi).1
    · have hv : acts[0]? = some (acts[0]'(by omega)) := List.getElem?_eq_getElem (by omega)
      have := block_lt_of_cell (hap 0 _ hv).2.1
      rwa [add_block] at this
end
end Go.Proofs.YteljihpheffjnaaDoor.Drum
