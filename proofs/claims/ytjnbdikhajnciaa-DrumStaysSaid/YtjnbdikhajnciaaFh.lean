/- The law's step: a call of both drums. -/
import Derived.Test.YtjnbdikhajnciaaFg
import Derived.Test.YtjnbdikhajnciaaRl
namespace Go.Proofs.Ytjnbdikhajnciaa.Drum
open Go.RowKit Go.Proofs.Ytjnbdikhajnciaa.Ord Go.Proofs.YtjnbdikhajnciaaW.PrintWords Go.Proofs.Ytjnbdikhajnciaa.Base
set_option linter.unusedVariables false
set_option linter.unusedSimpArgs false
attribute [local go_sem] rdl_const rdl_func rdl_global rdl_nil rdl_cons

/-- A block that is only read. -/
def blockT (bk : Nat) (cs : Array Value) (t : TypeId) : Thing where
  P := fun W => W.heap[bk]? = some (.cells cs t (0, 0))
  F := fun k => k = bk
  kept := fun W W' G h hm hG => (hm.block bk (Array.getElem?_eq_some_iff.1 h).1 (hG bk rfl)).trans h
  lt := fun W h k hk => by rw [hk]; exact (Array.getElem?_eq_some_iff.1 h).1
/-- A call, in plain terms. -/
structure ActV where
  kind : Int
  i : Int
  s : ByteArray
  ka : Option Addr
  kn : Nat
  kc : Nat
  zs : List Int
def ActV.cells (a : ActV) : Array Value := #[.int .i64 a.kind, .int .i64 a.i, .string a.s, .slice a.ka a.kn a.kc]
def DS.step (D : DS) (a : ActV) : Int × DS :=
  if a.kind = 1 then D.settle else if a.kind = 2 then (0, D.crash a.zs) else if a.kind = 3 then D.arm a.i else if a.kind = 4 then D.write a.i a.s.data.toList else D.write a.i (sec a.s)
def RS.step (R : RS) (a : ActV) : Int × RS :=
  if a.kind = 1 then R.settle else if a.kind = 2 then (0, R.crash a.zs) else if a.kind = 3 then R.arm a.i else if a.kind = 4 then R.write a.i a.s else R.write a.i (str (sec a.s))
theorem sim_step {D : DS} {R : RS} (h : Sim D R) (a : ActV) (hi : a.i ≤ 9223372036854775807) : (D.step a).1 = (R.step a).1 ∧ Sim (D.step a).2 (R.step a).2 := by
  unfold DS.step RS.step
  by_cases h1 : a.kind = 1
  · rw [if_pos h1, if_pos h1]; exact sim_settle h
  · rw [if_neg h1, if_neg h1]
    by_cases h2 : a.kind = 2
    · rw [if_pos h2, if_pos h2]; exact ⟨rfl, sim_crash h _⟩
    · rw [if_neg h2, if_neg h2]
      by_cases h3 : a.kind = 3
      · rw [if_pos h3, if_pos h3]; exact sim_arm h _ hi
      · rw [if_neg h3, if_neg h3]
        by_cases h4 : a.kind = 4
        · rw [if_pos h4, if_pos h4]; exact sim_write h _ _
        · rw [if_neg h4, if_neg h4]; exact sim_write h a.i (str (sec a.s))
/-- What a call is allowed to be, in memory. -/
structure ActOk (B : Nat) (w : World) (a : ActV) : Prop where
  i : a.i ≤ 9223372036854775807
  s : a.s.size ≤ 1000000
  ints : IntsAt w a.ka a.kn a.zs
  old : 0 < a.kn → ∀ ad, a.ka = some ad → ad.block < B
theorem IntsAt.later {B : Nat} {w W : World} {l : List Thing} {a : Option Addr} {n : Nat} {zs : List Int} (h : IntsAt w a n zs) (ho : 0 < n → ∀ ad, a = some ad → ad.block < B) (hs : Sep B w W l) : IntsAt W a n zs := by
  obtain ⟨h1, h2, h3⟩ := h
  refine ⟨h1, h2, fun h0 => ?_⟩
  obtain ⟨ad, e, hc⟩ := h3 h0
  refine ⟨ad, e, fun j z hz => ?_⟩
  have hb : (ad.add j).block = ad.block := by unfold Addr.add; split <;> rfl
  exact (hs.below.cell (p := ad.add j) (by rw [hb]; exact ho h0 ad e)).trans (hc j z hz)
/-- Both drums, each turned already or not yet. -/
def Two (B : Nat) (w : World) (l : List Thing) (b rb : Nat) (D D' : DS) (R R' : RS) (x y : Bool) (W : World) : Prop :=
  ∃ td tr, IsDrum b (if x then D' else D) td ∧ IsRef rb (if y then R' else R) tr ∧ Sep B w W (td :: tr :: l)
def Stepped (B : Nat) (w : World) (l : List Thing) (b rb : Nat) (D' : DS) (R' : RS) (W' : World) : Prop := Two B w l b rb D' D' R' R' true true W'
section
variable {B : Nat} {w W : World} {l : List Thing} {b rb : Nat} {D D' : DS} {R R' : RS} {x y : Bool}
theorem Two.done (h : Two B w l b rb D D' R R' true true W) : Stepped B w l b rb D' R' W := h
theorem Two.grown {W' : World} (h : Two B w l b rb D D' R R' x y W) (hn : NewMem W W') : Two B w l b rb D D' R R' x y W' := by
  obtain ⟨td, tr, h1, h2, h3⟩ := h; exact ⟨td, tr, h1, h2, h3.grown hn⟩
theorem Two.block {bk : Nat} {cs : Array Value} {t : TypeId} (h : Two B w (blockT bk cs t :: l) b rb D D' R R' x y W) : W.heap[bk]? = some (.cells cs t (0, 0)) := by
  obtain ⟨td, tr, _, _, h3⟩ := h
  exact (h3.all (blockT bk cs t) (by simp)).1
theorem Two.drop {t : Thing} (h : Two B w (t :: l) b rb D D' R R' x y W) : Two B w l b rb D D' R R' x y W := by
  obtain ⟨td, tr, h1, h2, h3⟩ := h
  exact ⟨td, tr, h1, h2, (h3.perm (l' := t :: td :: tr :: l) (by
    have p1 : (td :: tr :: t :: l).Perm (td :: t :: tr :: l) := List.Perm.cons _ (List.Perm.swap _ _ _)
    exact p1.trans (List.Perm.swap _ _ _))).tail⟩
theorem Two.left {f : FuncId} {args : Array Value} {v : Int} (h : Two B w l b rb D D' R R' false y W) (hc : ∀ td l', IsDrum b D td → Sep B w W (td :: l') → Calls Try.prog f args W (Turned B w l' b (v, D'))) :
    Calls Try.prog f args W fun e W' => e = .returned (.int .i64 v) ∧ Two B w l b rb D D' R R' true y W' := by
  obtain ⟨td, tr, h1, h2, h3⟩ := h
  exact (hc td _ h1 h3).mono fun e W' ⟨td', he, hd', hs'⟩ => ⟨he, td', tr, hd', h2, hs'⟩
theorem Two.right {f : FuncId} {args : Array Value} {v : Value} (h : Two B w l b rb D D' R R' x false W) (hc : ∀ tr l', IsRef rb R tr → Sep B w W (tr :: l') → Calls Try.prog f args W fun e W' => e = .returned v ∧ RTurned B w l' rb R' W') :
    Calls Try.prog f args W fun e W' => e = .returned v ∧ Two B w l b rb D D' R R' x true W' := by
  obtain ⟨td, tr, h1, h2, h3⟩ := h
  exact (hc tr _ h2 h3.swap).mono fun e W' ⟨he, tr', hr', hs'⟩ => ⟨he, td, tr', h1, hr', hs'.swap⟩
end
set_option maxRecDepth 100000 in
set_option maxHeartbeats 16000000 in
theorem step_at (B : Nat) (w W : World) (l : List Thing) (b rb : Nat) (D : DS) (R : RS) (a : ActV) (h : Two B w l b rb D D R R false false W) (hs : Sim D R) (hn : D.loose.length < 999999) (ha : ActOk B w a) :
    Calls Try.prog 39 #[.pointer (some ⟨b, 0, none⟩), .pointer (some ⟨rb, 0, none⟩), .agg a.cells] W fun e W' => e = .returned (.bool true) ∧ Stepped B w l b rb (D.step a).2 (R.step a).2 W' := by
  obtain ⟨hv, hsim⟩ := sim_step hs a ha.i
  obtain ⟨kind, i, s, ka, kn, kc, zs⟩ := a
  obtain ⟨bk, hbk⟩ : ∃ bk, bk = W.heap.size := ⟨_, rfl⟩
  obtain ⟨W1, hW1⟩ : ∃ W1, W1 = W.alloc (.cells #[.int .i64 kind, .int .i64 i, .string s, .slice ka kn kc] 58) := ⟨_, rfl⟩
  have hc : W1.heap[bk]? = some (.cells #[.int .i64 kind, .int .i64 i, .string s, .slice ka kn kc] 58 (0, 0)) := by rw [hW1, hbk]; exact heap_alloc_last _ _
  have h1 : Two B w (blockT bk #[.int .i64 kind, .int .i64 i, .string s, .slice ka kn kc] 58 :: l) b rb D (D.step ⟨kind, i, s, ka, kn, kc, zs⟩).2 R (R.step ⟨kind, i, s, ka, kn, kc, zs⟩).2 false false W1 := by
    obtain ⟨td, tr, h1, h2, h3⟩ := h
    have h4 := h3.new (t := blockT bk #[.int .i64 kind, .int .i64 i, .string s, .slice ka kn kc] 58) (W' := W1) (by rw [hW1]; exact NewMem.alloc _ _) hc (fun k hk => by rw [hk, hbk]; exact Nat.le_refl _)
    refine ⟨td, tr, h1, h2, h4.perm ?_⟩
    exact (List.Perm.swap _ _ _).trans (List.Perm.cons _ (List.Perm.swap _ _ _))
  have hfu := hs.fuse_le
  have hwl : R.W.length < 1000000 := by rw [hs.w, List.length_map]; omega
  have H1 := Lib.hid h1
  have HV := Lib.hid hv
  have HBK := Lib.hid hbk
  have HW1 := Lib.hid hW1
  have HA := Lib.hid ha
  have HN := Lib.hid hn
  have HFU := Lib.hid hfu
  have HWL := Lib.hid hwl
  have cells : ∀ W' : World, W'.heap[bk]? = some (.cells #[.int .i64 kind, .int .i64 i, .string s, .slice ka kn kc] 58 (0, 0)) → W'.cell? ⟨bk, 0, none⟩ = some (.int .i64 kind) ∧ W'.cell? ⟨bk, 1, none⟩ = some (.int .i64 i) ∧ W'.cell? ⟨bk, 2, none⟩ = some (.string s) ∧ W'.cell? ⟨bk, 3, none⟩ = some (.slice ka kn kc) := fun W' h => by simp [World.cell?, h]
  obtain ⟨q0, q1, q2, q3⟩ := cells W1 hc
  have CELLS := Lib.hid cells
  clear h hs hn ha hv hsim hbk hW1 hc h1 hfu hwl cells
  unfold ActV.cells
  simp only
  by_cases k1 : kind = 1
  · subst k1
    have e1 : D.step ⟨1, i, s, ka, kn, kc, zs⟩ = D.settle := by simp [DS.step]
    have e2 : R.step ⟨1, i, s, ka, kn, kc, zs⟩ = R.settle := by simp [RS.step]
    rw [e1, e2] at H1 HV ⊢
    have HT := Lib.hid H1
    clear e1 e2
    go_enter Try.func39, Try.ntmps39
    go_wp2_with fail
    rw [← HBK.out, ← HW1.out]
    go_wp2_with fail
    refine (Two.left (v := D.settle.1) HT.out (fun td l' hd hsep => settle_sep hsep hd (by have := HN.out; omega))).mono ?_
    rintro e W2 ⟨rfl, hT2⟩
    have HT2 := Lib.hid hT2
    clear hT2
    go_wp2_with fail
    refine (Two.right (v := .int .i64 R.settle.1) HT2.out (fun tr l' hr hsep => rsettle_sep hsep hr HFU.out)).mono ?_
    rintro e W3 ⟨rfl, hT3⟩
    rw [← HV.out]
    have HT3 := Lib.hid hT3.drop
    clear hT3
    go_wp2_with fail
    go_ret
    exact ⟨rfl, HT3.out⟩
  · have k1' : (kind == 1) = false := by simpa using k1
    by_cases k2 : kind = 2
    · subst k2
      have e1 : D.step ⟨2, i, s, ka, kn, kc, zs⟩ = (0, D.crash zs) := by simp [DS.step]
      have e2 : R.step ⟨2, i, s, ka, kn, kc, zs⟩ = (0, R.crash zs) := by simp [RS.step]
      rw [e1, e2] at H1 HV ⊢
      clear e1 e2 k1 k1'
      have notin : ∀ (td : Thing) (l' : List Thing) (W' : World), Sep B w W' (td :: l') → 0 < kn → ∀ ad, ka = some ad → ¬ td.F ad.block := fun td l' W' hsep h0 ad e hF => by
        have h1 := (hsep.all td List.mem_cons_self).2 _ hF
        have h2 := HA.out.old h0 ad e
        omega
      have NI := Lib.hid notin
      clear notin
      go_enter Try.func39, Try.ntmps39
      go_wp2_with fail
      rw [← HBK.out, ← HW1.out]
      go_wp2_with fail
      refine (Two.right (v := .tuple #[]) H1.out (fun tr l' hr hsep => rcrash_sep hsep hr ka kn kc zs (HA.out.ints.later HA.out.old hsep) (NI.out tr l' _ hsep))).mono ?_
      rintro e W2 ⟨rfl, hT2⟩
      obtain ⟨q0, q1, q2, q3⟩ := CELLS.out W2 hT2.block
      have HT2 := Lib.hid hT2
      clear hT2
      go_wp2_with fail
      refine (Two.left (v := 0) HT2.out (fun td l' hd hsep => crash_sep hsep hd (by have := HN.out; omega) ka kn kc zs (HA.out.ints.later HA.out.old hsep) (NI.out td l' _ hsep))).mono ?_
      rintro e W3 ⟨rfl, hT3⟩
      have HT3 := Lib.hid hT3.drop
      clear hT3
      go_wp2_with fail
      go_ret
      exact ⟨rfl, HT3.out⟩
    · have k2' : (kind == 2) = false := by simpa using k2
      by_cases k3 : kind = 3
      · subst k3
        have e1 : D.step ⟨3, i, s, ka, kn, kc, zs⟩ = D.arm i := by simp [DS.step]
        have e2 : R.step ⟨3, i, s, ka, kn, kc, zs⟩ = R.arm i := by simp [RS.step]
        rw [e1, e2] at H1 HV ⊢
        clear e1 e2 k1 k1' k2 k2'
        go_enter Try.func39, Try.ntmps39
        go_wp2_with fail
        rw [← HBK.out, ← HW1.out]
        go_wp2_with fail
        refine' wp_region_factsL (S := (fun L W' => Two B w (blockT bk #[.int .i64 3, .int .i64 i, .string s, .slice ka kn kc] 58 :: l) b rb D (D.arm i).2 R (R.arm i).2 (L 3) (L 7) W')) [eqF _ _, eqF _ _, eqF _ (.int .i64 i), eqF _ (.int .i64 (D.arm i).1), eqF _ _, eqF _ _, eqF _ (.int .i64 i), eqF _ (.int .i64 (D.arm i).1), eqF _ (.bool true), eqF _ (.bool true)] (by kernel_rfl) (by kernel_rfl) ?h0 (stepsL_cons ?s0 (stepsL_cons ?s1 (stepsL_cons ?s2 (stepsL_cons ?s3 (stepsL_cons ?s4 (stepsL_cons ?s5 (stepsL_cons ?s6 (stepsL_cons ?s7 (stepsL_cons ?s8 (stepsL_cons ?s9 (stepsL_nil))))))))))) ?fin
        case s0 =>
          intro g W L hL hSW hd
          try simp only [Nat.zero_add, Nat.reduceAdd] at hd ⊢
          with_reducible refine OpGives.pre_reads [] 68 ?_ ?_ ?_
          · rfl
          · kernel_rfl
          simp only [List.map_cons, List.map_nil]
          refine OpGives.val (w' := W) ?_ ⟨rfl, hSW⟩
          go_simp
          try with_reducible rfl
        case s1 =>
          intro g W L hL hSW hd
          try simp only [Nat.zero_add, Nat.reduceAdd] at hd ⊢
          with_reducible refine OpGives.pre_reads [] 68 ?_ ?_ ?_
          · rfl
          · kernel_rfl
          simp only [List.map_cons, List.map_nil]
          refine OpGives.val (w' := W) ?_ ⟨rfl, hSW⟩
          go_simp
          try with_reducible rfl
        case s2 =>
          intro g W L hL hSW hd
          try simp only [Nat.zero_add, Nat.reduceAdd] at hd ⊢
          have h1 : g 1 = _ := hd 1 (by decide) (by kernel_rfl)
          with_reducible refine OpGives.pre_reads [(30, 1)] 68 ?_ ?_ ?_
          · rfl
          · kernel_rfl
          simp only [List.map_cons, List.map_nil]
          have c := (CELLS.out W (Two.block hSW)).2.1; refine OpGives.val (w' := W) ?_ ⟨rfl, hSW⟩; go_simp
        case s3 =>
          intro g W L hL hSW hd
          try simp only [Nat.zero_add, Nat.reduceAdd] at hd ⊢
          have h0 : g 0 = _ := hd 0 (by decide) (by kernel_rfl)
          have h2 : g 2 = _ := hd 2 (by decide) (by kernel_rfl)
          with_reducible refine OpGives.pre_reads [(29, 0), (31, 2)] 68 ?_ ?_ ?_
          · rfl
          · kernel_rfl
          simp only [List.map_cons, List.map_nil]
          have hT : Two B w (blockT bk #[.int .i64 3, .int .i64 i, .string s, .slice ka kn kc] 58 :: l) b rb D (D.arm i).2 R (R.arm i).2 false (L 7) W := by {rw [← hL]; exact hSW}; refine OpGives.call (f := 23) (args := #[.pointer (some ⟨b, 0, none⟩), .int .i64 i]) (w' := W) (by go_simp) ((Two.left (v := (D.arm i).1) hT (fun td l' hd hsep => arm_sep hsep hd i)).mono fun e w' ⟨he, ht⟩ => ⟨_, he, rfl, ht⟩)
        case s4 =>
          intro g W L hL hSW hd
          try simp only [Nat.zero_add, Nat.reduceAdd] at hd ⊢
          with_reducible refine OpGives.pre_reads [] 68 ?_ ?_ ?_
          · rfl
          · kernel_rfl
          simp only [List.map_cons, List.map_nil]
          refine OpGives.val (w' := W) ?_ ⟨rfl, hSW⟩
          go_simp
          try with_reducible rfl
        case s5 =>
          intro g W L hL hSW hd
          try simp only [Nat.zero_add, Nat.reduceAdd] at hd ⊢
          with_reducible refine OpGives.pre_reads [] 68 ?_ ?_ ?_
          · rfl
          · kernel_rfl
          simp only [List.map_cons, List.map_nil]
          refine OpGives.val (w' := W) ?_ ⟨rfl, hSW⟩
          go_simp
          try with_reducible rfl
        case s6 =>
          intro g W L hL hSW hd
          try simp only [Nat.zero_add, Nat.reduceAdd] at hd ⊢
          have h5 : g 5 = _ := hd 5 (by decide) (by kernel_rfl)
          with_reducible refine OpGives.pre_reads [(34, 5)] 68 ?_ ?_ ?_
          · rfl
          · kernel_rfl
          simp only [List.map_cons, List.map_nil]
          have c := (CELLS.out W (Two.block hSW)).2.1; refine OpGives.val (w' := W) ?_ ⟨rfl, hSW⟩; go_simp
        case s7 =>
          intro g W L hL hSW hd
          try simp only [Nat.zero_add, Nat.reduceAdd] at hd ⊢
          have h4 : g 4 = _ := hd 4 (by decide) (by kernel_rfl)
          have h6 : g 6 = _ := hd 6 (by decide) (by kernel_rfl)
          with_reducible refine OpGives.pre_reads [(33, 4), (35, 6)] 68 ?_ ?_ ?_
          · rfl
          · kernel_rfl
          simp only [List.map_cons, List.map_nil]
          have hT : Two B w (blockT bk #[.int .i64 3, .int .i64 i, .string s, .slice ka kn kc] 58 :: l) b rb D (D.arm i).2 R (R.arm i).2 (L 3) false W := by {rw [← hL]; exact hSW}; refine OpGives.call (f := 65) (args := #[.pointer (some ⟨rb, 0, none⟩), .int .i64 i]) (w' := W) (by go_simp) ((Two.right (v := .int .i64 (R.arm i).1) hT (fun tr l' hr hsep => rarm_sep hsep hr i)).mono fun e w' ⟨he, ht⟩ => ⟨_, he, by rw [HV.out]; rfl, ht⟩)
        case s8 =>
          intro g W L hL hSW hd
          try simp only [Nat.zero_add, Nat.reduceAdd] at hd ⊢
          have h3 : g 3 = _ := hd 3 (by decide) (by kernel_rfl)
          have h7 : g 7 = _ := hd 7 (by decide) (by kernel_rfl)
          with_reducible refine OpGives.pre_reads [(32, 3), (36, 7)] 68 ?_ ?_ ?_
          · rfl
          · kernel_rfl
          simp only [List.map_cons, List.map_nil]
          refine OpGives.val (w' := W) ?_ ⟨rfl, hSW⟩
          go_simp
          try with_reducible rfl
        case s9 =>
          intro g W L hL hSW hd
          try simp only [Nat.zero_add, Nat.reduceAdd] at hd ⊢
          have h8 : g 8 = _ := hd 8 (by decide) (by kernel_rfl)
          with_reducible refine OpGives.pre_reads [(37, 8)] 68 ?_ ?_ ?_
          · rfl
          · kernel_rfl
          simp only [List.map_cons, List.map_nil]
          refine OpGives.val (w' := W) ?_ ⟨rfl, hSW⟩
          go_simp
          try with_reducible rfl
        case h0 => exact H1.out.grown (below_drewN' (n := 1) (Below.refl _ _))
        case fin =>
          intro v W' L hL hSW hf
          have h9 : v 9 = _ := hf 9 (Nat.lt_of_lt_of_eq (by decide : 9 < 10) rfl)
          have hTT : Two B w (blockT bk #[.int .i64 3, .int .i64 i, .string s, .slice ka kn kc] 58 :: l) b rb D (D.arm i).2 R (R.arm i).2 true true W' := by
            have l3 := hL 3 (Nat.lt_of_lt_of_eq (by decide : 3 < 10) rfl)
            have l7 := hL 7 (Nat.lt_of_lt_of_eq (by decide : 7 < 10) rfl)
            have hS : Two B w (blockT bk #[.int .i64 3, .int .i64 i, .string s, .slice ka kn kc] 58 :: l) b rb D (D.arm i).2 R (R.arm i).2 (L 3) (L 7) W' := hSW
            rw [l3, l7] at hS; exact hS
          clear hf
          generalize hF : Ord.pre _ _ v _ = F
          rw [Ord.pre_lit [some 29, some 30, some 31, some 32, some 33, some 34, some 35, some 36, some 37, some 6]
            (by kernel_rfl)] at hF
          simp only [Ord.puts, Nat.zero_add, Nat.reduceAdd] at hF
          subst hF
          rw [h9]
          have HT3 := Lib.hid hTT.drop
          clear hTT h9
          refine wpAny_done (by kernel_rfl) ?_ _
          try simp only [List.getElem_toArray, List.getElem_cons_succ, List.getElem_cons_zero]
          go_frame
          go_wp2_with fail
          go_ret
          exact ⟨rfl, HT3.out⟩
      · have k3' : (kind == 3) = false := by simpa using k3
        have hmx : s.size ≤ maxLen := by have := HA.out.s; simp only at this; unfold maxLen; omega
        have HMX := Lib.hid hmx
        have hse : (str (sec s)).size = 64 := by show (sec s).toArray.size = 64; rw [List.size_toArray, sec_len]
        have HSEC := Lib.hid (⟨by omega, by unfold maxLen; omega⟩ : (str (sec s)).size ≤ 1000000 ∧ (str (sec s)).size ≤ maxLen)
        clear hmx hse
        by_cases k4 : kind = 4
        · subst k4
          have e1 : D.step ⟨4, i, s, ka, kn, kc, zs⟩ = D.write i s.data.toList := by simp [DS.step]
          have e2 : R.step ⟨4, i, s, ka, kn, kc, zs⟩ = R.write i s := by simp [RS.step]
          rw [e1, e2] at H1 HV ⊢
          clear e1 e2 k1 k1' k2 k2' k3 k3'
          go_enter Try.func39, Try.ntmps39
          go_wp2_with fail
          rw [← HBK.out, ← HW1.out]
          go_wp2_with fail
          refine' wp_region_factsL (S := (fun L W' => Two B w (blockT bk #[.int .i64 4, .int .i64 i, .string s, .slice ka kn kc] 58 :: l) b rb D (D.write i s.data.toList).2 R (R.write i s).2 (L 5) (L 11) W')) [eqF _ _, eqF _ _, eqF _ (.int .i64 i), eqF _ _, eqF _ (.string s), eqF _ (.int .i64 (D.write i s.data.toList).1), eqF _ _, eqF _ _, eqF _ (.int .i64 i), eqF _ _, eqF _ (.string s), eqF _ (.int .i64 (D.write i s.data.toList).1), eqF _ (.bool true), eqF _ (.bool true)] (by kernel_rfl) (by kernel_rfl) ?h0 (stepsL_cons ?s0 (stepsL_cons ?s1 (stepsL_cons ?s2 (stepsL_cons ?s3 (stepsL_cons ?s4 (stepsL_cons ?s5 (stepsL_cons ?s6 (stepsL_cons ?s7 (stepsL_cons ?s8 (stepsL_cons ?s9 (stepsL_cons ?s10 (stepsL_cons ?s11 (stepsL_cons ?s12 (stepsL_cons ?s13 (stepsL_nil))))))))))))))) ?fin
          case s0 =>
            intro g W L hL hSW hd
            try simp only [Nat.zero_add, Nat.reduceAdd] at hd ⊢
            with_reducible refine OpGives.pre_reads [] 68 ?_ ?_ ?_
            · rfl
            · kernel_rfl
            simp only [List.map_cons, List.map_nil]
            refine OpGives.val (w' := W) ?_ ⟨rfl, hSW⟩
            go_simp
            try with_reducible rfl
          case s1 =>
            intro g W L hL hSW hd
            try simp only [Nat.zero_add, Nat.reduceAdd] at hd ⊢
            with_reducible refine OpGives.pre_reads [] 68 ?_ ?_ ?_
            · rfl
            · kernel_rfl
            simp only [List.map_cons, List.map_nil]
            refine OpGives.val (w' := W) ?_ ⟨rfl, hSW⟩
            go_simp
            try with_reducible rfl
          case s2 =>
            intro g W L hL hSW hd
            try simp only [Nat.zero_add, Nat.reduceAdd] at hd ⊢
            have h1 : g 1 = _ := hd 1 (by decide) (by kernel_rfl)
            with_reducible refine OpGives.pre_reads [(41, 1)] 68 ?_ ?_ ?_
            · rfl
            · kernel_rfl
            simp only [List.map_cons, List.map_nil]
            have c := (CELLS.out W (Two.block hSW)).2.1; refine OpGives.val (w' := W) ?_ ⟨rfl, hSW⟩; go_simp
          case s3 =>
            intro g W L hL hSW hd
            try simp only [Nat.zero_add, Nat.reduceAdd] at hd ⊢
            with_reducible refine OpGives.pre_reads [] 68 ?_ ?_ ?_
            · rfl
            · kernel_rfl
            simp only [List.map_cons, List.map_nil]
            refine OpGives.val (w' := W) ?_ ⟨rfl, hSW⟩
            go_simp
            try with_reducible rfl
          case s4 =>
            intro g W L hL hSW hd
            try simp only [Nat.zero_add, Nat.reduceAdd] at hd ⊢
            have h3 : g 3 = _ := hd 3 (by decide) (by kernel_rfl)
            with_reducible refine OpGives.pre_reads [(43, 3)] 68 ?_ ?_ ?_
            · rfl
            · kernel_rfl
            simp only [List.map_cons, List.map_nil]
            have c := (CELLS.out W (Two.block hSW)).2.2.1; refine OpGives.val (w' := W) ?_ ⟨rfl, hSW⟩; go_simp
          case s5 =>
            intro g W L hL hSW hd
            try simp only [Nat.zero_add, Nat.reduceAdd] at hd ⊢
            have h0 : g 0 = _ := hd 0 (by decide) (by kernel_rfl)
            have h2 : g 2 = _ := hd 2 (by decide) (by kernel_rfl)
            have h4 : g 4 = _ := hd 4 (by decide) (by kernel_rfl)
            with_reducible refine OpGives.pre_reads [(40, 0), (42, 2), (44, 4)] 68 ?_ ?_ ?_
            · rfl
            · kernel_rfl
            simp only [List.map_cons, List.map_nil]
            have hT : Two B w (blockT bk #[.int .i64 4, .int .i64 i, .string s, .slice ka kn kc] 58 :: l) b rb D (D.write i s.data.toList).2 R (R.write i s).2 false (L 11) W := by {rw [← hL]; exact hSW}; refine OpGives.call (f := 24) (args := #[.pointer (some ⟨b, 0, none⟩), .int .i64 i, .string s]) (w' := W) (by go_simp) ((Two.left (v := (D.write i s.data.toList).1) hT (fun td l' hd hsep => write_sep hsep hd i s HA.out.s (by have := HN.out; omega))).mono fun e w' ⟨he, ht⟩ => ⟨_, he, rfl, ht⟩)
          case s6 =>
            intro g W L hL hSW hd
            try simp only [Nat.zero_add, Nat.reduceAdd] at hd ⊢
            with_reducible refine OpGives.pre_reads [] 68 ?_ ?_ ?_
            · rfl
            · kernel_rfl
            simp only [List.map_cons, List.map_nil]
            refine OpGives.val (w' := W) ?_ ⟨rfl, hSW⟩
            go_simp
            try with_reducible rfl
          case s7 =>
            intro g W L hL hSW hd
            try simp only [Nat.zero_add, Nat.reduceAdd] at hd ⊢
            with_reducible refine OpGives.pre_reads [] 68 ?_ ?_ ?_
            · rfl
            · kernel_rfl
            simp only [List.map_cons, List.map_nil]
            refine OpGives.val (w' := W) ?_ ⟨rfl, hSW⟩
            go_simp
            try with_reducible rfl
          case s8 =>
            intro g W L hL hSW hd
            try simp only [Nat.zero_add, Nat.reduceAdd] at hd ⊢
            have h7 : g 7 = _ := hd 7 (by decide) (by kernel_rfl)
            with_reducible refine OpGives.pre_reads [(47, 7)] 68 ?_ ?_ ?_
            · rfl
            · kernel_rfl
            simp only [List.map_cons, List.map_nil]
            have c := (CELLS.out W (Two.block hSW)).2.1; refine OpGives.val (w' := W) ?_ ⟨rfl, hSW⟩; go_simp
          case s9 =>
            intro g W L hL hSW hd
            try simp only [Nat.zero_add, Nat.reduceAdd] at hd ⊢
            with_reducible refine OpGives.pre_reads [] 68 ?_ ?_ ?_
            · rfl
            · kernel_rfl
            simp only [List.map_cons, List.map_nil]
            refine OpGives.val (w' := W) ?_ ⟨rfl, hSW⟩
            go_simp
            try with_reducible rfl
          case s10 =>
            intro g W L hL hSW hd
            try simp only [Nat.zero_add, Nat.reduceAdd] at hd ⊢
            have h9 : g 9 = _ := hd 9 (by decide) (by kernel_rfl)
            with_reducible refine OpGives.pre_reads [(49, 9)] 68 ?_ ?_ ?_
            · rfl
            · kernel_rfl
            simp only [List.map_cons, List.map_nil]
            have c := (CELLS.out W (Two.block hSW)).2.2.1; refine OpGives.val (w' := W) ?_ ⟨rfl, hSW⟩; go_simp
          case s11 =>
            intro g W L hL hSW hd
            try simp only [Nat.zero_add, Nat.reduceAdd] at hd ⊢
            have h6 : g 6 = _ := hd 6 (by decide) (by kernel_rfl)
            have h8 : g 8 = _ := hd 8 (by decide) (by kernel_rfl)
            have h10 : g 10 = _ := hd 10 (by decide) (by kernel_rfl)
            with_reducible refine OpGives.pre_reads [(46, 6), (48, 8), (50, 10)] 68 ?_ ?_ ?_
            · rfl
            · kernel_rfl
            simp only [List.map_cons, List.map_nil]
            have hT : Two B w (blockT bk #[.int .i64 4, .int .i64 i, .string s, .slice ka kn kc] 58 :: l) b rb D (D.write i s.data.toList).2 R (R.write i s).2 (L 5) false W := by {rw [← hL]; exact hSW}; refine OpGives.call (f := 66) (args := #[.pointer (some ⟨rb, 0, none⟩), .int .i64 i, .string s]) (w' := W) (by go_simp) ((Two.right (v := .int .i64 (R.write i s).1) hT (fun tr l' hr hsep => rwrite_sep hsep hr i s HFU.out HWL.out HMX.out)).mono fun e w' ⟨he, ht⟩ => ⟨_, he, by rw [HV.out]; rfl, ht⟩)
          case s12 =>
            intro g W L hL hSW hd
            try simp only [Nat.zero_add, Nat.reduceAdd] at hd ⊢
            have h5 : g 5 = _ := hd 5 (by decide) (by kernel_rfl)
            have h11 : g 11 = _ := hd 11 (by decide) (by kernel_rfl)
            with_reducible refine OpGives.pre_reads [(45, 5), (51, 11)] 68 ?_ ?_ ?_
            · rfl
            · kernel_rfl
            simp only [List.map_cons, List.map_nil]
            refine OpGives.val (w' := W) ?_ ⟨rfl, hSW⟩
            go_simp
            try with_reducible rfl
          case s13 =>
            intro g W L hL hSW hd
            try simp only [Nat.zero_add, Nat.reduceAdd] at hd ⊢
            have h12 : g 12 = _ := hd 12 (by decide) (by kernel_rfl)
            with_reducible refine OpGives.pre_reads [(52, 12)] 68 ?_ ?_ ?_
            · rfl
            · kernel_rfl
            simp only [List.map_cons, List.map_nil]
            refine OpGives.val (w' := W) ?_ ⟨rfl, hSW⟩
            go_simp
            try with_reducible rfl
          case h0 => exact H1.out.grown (below_drewN' (n := 1) (Below.refl _ _))
          case fin =>
            intro v W' L hL hSW hf
            have h9 : v 13 = _ := hf 13 (Nat.lt_of_lt_of_eq (by decide : 13 < 14) rfl)
            have hTT : Two B w (blockT bk #[.int .i64 4, .int .i64 i, .string s, .slice ka kn kc] 58 :: l) b rb D (D.write i s.data.toList).2 R (R.write i s).2 true true W' := by
              have l3 := hL 5 (Nat.lt_of_lt_of_eq (by decide : 5 < 14) rfl)
              have l7 := hL 11 (Nat.lt_of_lt_of_eq (by decide : 11 < 14) rfl)
              have hS : Two B w (blockT bk #[.int .i64 4, .int .i64 i, .string s, .slice ka kn kc] 58 :: l) b rb D (D.write i s.data.toList).2 R (R.write i s).2 (L 5) (L 11) W' := hSW
              rw [l3, l7] at hS; exact hS
            clear hf
            generalize hF : Ord.pre _ _ v _ = F
            rw [Ord.pre_lit [some 40, some 41, some 42, some 43, some 44, some 45, some 46, some 47, some 48, some 49, some 50, some 51, some 52, some 6]
              (by kernel_rfl)] at hF
            simp only [Ord.puts, Nat.zero_add, Nat.reduceAdd] at hF
            subst hF
            rw [h9]
            have HT3 := Lib.hid hTT.drop
            clear hTT h9
            refine wpAny_done (by kernel_rfl) ?_ _
            try simp only [List.getElem_toArray, List.getElem_cons_succ, List.getElem_cons_zero]
            go_frame
            go_wp2_with fail
            go_ret
            exact ⟨rfl, HT3.out⟩
        · have k4' : (kind == 4) = false := by simpa using k4
          have e1 : D.step ⟨kind, i, s, ka, kn, kc, zs⟩ = D.write i (sec s) := by simp [DS.step, k1, k2, k3, k4]
          have e2 : R.step ⟨kind, i, s, ka, kn, kc, zs⟩ = R.write i (str (sec s)) := by simp [RS.step, k1, k2, k3, k4]
          rw [e1, e2] at H1 HV ⊢
          clear e1 e2 k1 k2 k3 k4
          go_enter Try.func39, Try.ntmps39
          go_wp2_with fail
          rw [← HBK.out, ← HW1.out]
          go_wp2_with fail
          refine' wp_region_factsL (S := (fun L W' => Two B w (blockT bk #[.int .i64 kind, .int .i64 i, .string s, .slice ka kn kc] 58 :: l) b rb D (D.write i (sec s)).2 R (R.write i (str (sec s))).2 (L 6) (L 13) W')) [eqF _ _, eqF _ _, eqF _ (.int .i64 i), eqF _ _, eqF _ (.string s), eqF _ (.string (str (sec s))), eqF _ (.int .i64 (D.write i (sec s)).1), eqF _ _, eqF _ _, eqF _ (.int .i64 i), eqF _ _, eqF _ (.string s), eqF _ (.string (str (sec s))), eqF _ (.int .i64 (D.write i (sec s)).1), eqF _ (.bool true), eqF _ (.bool true)] (by kernel_rfl) (by kernel_rfl) ?h0 (stepsL_cons ?s0 (stepsL_cons ?s1 (stepsL_cons ?s2 (stepsL_cons ?s3 (stepsL_cons ?s4 (stepsL_cons ?s5 (stepsL_cons ?s6 (stepsL_cons ?s7 (stepsL_cons ?s8 (stepsL_cons ?s9 (stepsL_cons ?s10 (stepsL_cons ?s11 (stepsL_cons ?s12 (stepsL_cons ?s13 (stepsL_cons ?s14 (stepsL_cons ?s15 (stepsL_nil))))))))))))))))) ?fin
          case s0 =>
            intro g W L hL hSW hd
            try simp only [Nat.zero_add, Nat.reduceAdd] at hd ⊢
            with_reducible refine OpGives.pre_reads [] 68 ?_ ?_ ?_
            · rfl
            · kernel_rfl
            simp only [List.map_cons, List.map_nil]
            refine OpGives.val (w' := W) ?_ ⟨rfl, hSW⟩
            go_simp
            try with_reducible rfl
          case s1 =>
            intro g W L hL hSW hd
            try simp only [Nat.zero_add, Nat.reduceAdd] at hd ⊢
            with_reducible refine OpGives.pre_reads [] 68 ?_ ?_ ?_
            · rfl
            · kernel_rfl
            simp only [List.map_cons, List.map_nil]
            refine OpGives.val (w' := W) ?_ ⟨rfl, hSW⟩
            go_simp
            try with_reducible rfl
          case s2 =>
            intro g W L hL hSW hd
            try simp only [Nat.zero_add, Nat.reduceAdd] at hd ⊢
            have h1 : g 1 = _ := hd 1 (by decide) (by kernel_rfl)
            with_reducible refine OpGives.pre_reads [(54, 1)] 68 ?_ ?_ ?_
            · rfl
            · kernel_rfl
            simp only [List.map_cons, List.map_nil]
            have c := (CELLS.out W (Two.block hSW)).2.1; refine OpGives.val (w' := W) ?_ ⟨rfl, hSW⟩; go_simp
          case s3 =>
            intro g W L hL hSW hd
            try simp only [Nat.zero_add, Nat.reduceAdd] at hd ⊢
            with_reducible refine OpGives.pre_reads [] 68 ?_ ?_ ?_
            · rfl
            · kernel_rfl
            simp only [List.map_cons, List.map_nil]
            refine OpGives.val (w' := W) ?_ ⟨rfl, hSW⟩
            go_simp
            try with_reducible rfl
          case s4 =>
            intro g W L hL hSW hd
            try simp only [Nat.zero_add, Nat.reduceAdd] at hd ⊢
            have h3 : g 3 = _ := hd 3 (by decide) (by kernel_rfl)
            with_reducible refine OpGives.pre_reads [(56, 3)] 68 ?_ ?_ ?_
            · rfl
            · kernel_rfl
            simp only [List.map_cons, List.map_nil]
            have c := (CELLS.out W (Two.block hSW)).2.2.1; refine OpGives.val (w' := W) ?_ ⟨rfl, hSW⟩; go_simp
          case s5 =>
            intro g W L hL hSW hd
            try simp only [Nat.zero_add, Nat.reduceAdd] at hd ⊢
            have h4 : g 4 = _ := hd 4 (by decide) (by kernel_rfl)
            with_reducible refine OpGives.pre_reads [(57, 4)] 68 ?_ ?_ ?_
            · rfl
            · kernel_rfl
            simp only [List.map_cons, List.map_nil]
            refine OpGives.call (f := 25) (args := #[.string s]) (w' := W) (by go_simp) ((sector_any s HA.out.s W).mono fun e w' ⟨he, hn⟩ => ⟨_, he, rfl, Two.grown hSW hn⟩)
          case s6 =>
            intro g W L hL hSW hd
            try simp only [Nat.zero_add, Nat.reduceAdd] at hd ⊢
            have h0 : g 0 = _ := hd 0 (by decide) (by kernel_rfl)
            have h2 : g 2 = _ := hd 2 (by decide) (by kernel_rfl)
            have h5 : g 5 = _ := hd 5 (by decide) (by kernel_rfl)
            with_reducible refine OpGives.pre_reads [(53, 0), (55, 2), (58, 5)] 68 ?_ ?_ ?_
            · rfl
            · kernel_rfl
            simp only [List.map_cons, List.map_nil]
            have hT : Two B w (blockT bk #[.int .i64 kind, .int .i64 i, .string s, .slice ka kn kc] 58 :: l) b rb D (D.write i (sec s)).2 R (R.write i (str (sec s))).2 false (L 13) W := by {rw [← hL]; exact hSW}; refine OpGives.call (f := 24) (args := #[.pointer (some ⟨b, 0, none⟩), .int .i64 i, .string (str (sec s))]) (w' := W) (by go_simp) ((Two.left (v := (D.write i (sec s)).1) hT (fun td l' hd hsep => write_sep hsep hd i (str (sec s)) (HSEC.out.1) (by have := HN.out; omega))).mono fun e w' ⟨he, ht⟩ => ⟨_, he, rfl, ht⟩)
          case s7 =>
            intro g W L hL hSW hd
            try simp only [Nat.zero_add, Nat.reduceAdd] at hd ⊢
            with_reducible refine OpGives.pre_reads [] 68 ?_ ?_ ?_
            · rfl
            · kernel_rfl
            simp only [List.map_cons, List.map_nil]
            refine OpGives.val (w' := W) ?_ ⟨rfl, hSW⟩
            go_simp
            try with_reducible rfl
          case s8 =>
            intro g W L hL hSW hd
            try simp only [Nat.zero_add, Nat.reduceAdd] at hd ⊢
            with_reducible refine OpGives.pre_reads [] 68 ?_ ?_ ?_
            · rfl
            · kernel_rfl
            simp only [List.map_cons, List.map_nil]
            refine OpGives.val (w' := W) ?_ ⟨rfl, hSW⟩
            go_simp
            try with_reducible rfl
          case s9 =>
            intro g W L hL hSW hd
            try simp only [Nat.zero_add, Nat.reduceAdd] at hd ⊢
            have h8 : g 8 = _ := hd 8 (by decide) (by kernel_rfl)
            with_reducible refine OpGives.pre_reads [(61, 8)] 68 ?_ ?_ ?_
            · rfl
            · kernel_rfl
            simp only [List.map_cons, List.map_nil]
            have c := (CELLS.out W (Two.block hSW)).2.1; refine OpGives.val (w' := W) ?_ ⟨rfl, hSW⟩; go_simp
          case s10 =>
            intro g W L hL hSW hd
            try simp only [Nat.zero_add, Nat.reduceAdd] at hd ⊢
            with_reducible refine OpGives.pre_reads [] 68 ?_ ?_ ?_
            · rfl
            · kernel_rfl
            simp only [List.map_cons, List.map_nil]
            refine OpGives.val (w' := W) ?_ ⟨rfl, hSW⟩
            go_simp
            try with_reducible rfl
          case s11 =>
            intro g W L hL hSW hd
            try simp only [Nat.zero_add, Nat.reduceAdd] at hd ⊢
            have h10 : g 10 = _ := hd 10 (by decide) (by kernel_rfl)
            with_reducible refine OpGives.pre_reads [(63, 10)] 68 ?_ ?_ ?_
            · rfl
            · kernel_rfl
            simp only [List.map_cons, List.map_nil]
            have c := (CELLS.out W (Two.block hSW)).2.2.1; refine OpGives.val (w' := W) ?_ ⟨rfl, hSW⟩; go_simp
          case s12 =>
            intro g W L hL hSW hd
            try simp only [Nat.zero_add, Nat.reduceAdd] at hd ⊢
            have h11 : g 11 = _ := hd 11 (by decide) (by kernel_rfl)
            with_reducible refine OpGives.pre_reads [(64, 11)] 68 ?_ ?_ ?_
            · rfl
            · kernel_rfl
            simp only [List.map_cons, List.map_nil]
            refine OpGives.call (f := 25) (args := #[.string s]) (w' := W) (by go_simp) ((sector_any s HA.out.s W).mono fun e w' ⟨he, hn⟩ => ⟨_, he, rfl, Two.grown hSW hn⟩)
          case s13 =>
            intro g W L hL hSW hd
            try simp only [Nat.zero_add, Nat.reduceAdd] at hd ⊢
            have h7 : g 7 = _ := hd 7 (by decide) (by kernel_rfl)
            have h9 : g 9 = _ := hd 9 (by decide) (by kernel_rfl)
            have h12 : g 12 = _ := hd 12 (by decide) (by kernel_rfl)
            with_reducible refine OpGives.pre_reads [(60, 7), (62, 9), (65, 12)] 68 ?_ ?_ ?_
            · rfl
            · kernel_rfl
            simp only [List.map_cons, List.map_nil]
            have hT : Two B w (blockT bk #[.int .i64 kind, .int .i64 i, .string s, .slice ka kn kc] 58 :: l) b rb D (D.write i (sec s)).2 R (R.write i (str (sec s))).2 (L 6) false W := by {rw [← hL]; exact hSW}; refine OpGives.call (f := 66) (args := #[.pointer (some ⟨rb, 0, none⟩), .int .i64 i, .string (str (sec s))]) (w' := W) (by go_simp) ((Two.right (v := .int .i64 (R.write i (str (sec s))).1) hT (fun tr l' hr hsep => rwrite_sep hsep hr i (str (sec s)) HFU.out HWL.out HSEC.out.2)).mono fun e w' ⟨he, ht⟩ => ⟨_, he, by rw [HV.out]; rfl, ht⟩)
          case s14 =>
            intro g W L hL hSW hd
            try simp only [Nat.zero_add, Nat.reduceAdd] at hd ⊢
            have h6 : g 6 = _ := hd 6 (by decide) (by kernel_rfl)
            have h13 : g 13 = _ := hd 13 (by decide) (by kernel_rfl)
            with_reducible refine OpGives.pre_reads [(59, 6), (66, 13)] 68 ?_ ?_ ?_
            · rfl
            · kernel_rfl
            simp only [List.map_cons, List.map_nil]
            refine OpGives.val (w' := W) ?_ ⟨rfl, hSW⟩
            go_simp
            try with_reducible rfl
          case s15 =>
            intro g W L hL hSW hd
            try simp only [Nat.zero_add, Nat.reduceAdd] at hd ⊢
            have h14 : g 14 = _ := hd 14 (by decide) (by kernel_rfl)
            with_reducible refine OpGives.pre_reads [(67, 14)] 68 ?_ ?_ ?_
            · rfl
            · kernel_rfl
            simp only [List.map_cons, List.map_nil]
            refine OpGives.val (w' := W) ?_ ⟨rfl, hSW⟩
            go_simp
            try with_reducible rfl
          case h0 => exact H1.out.grown (below_drewN' (n := 1) (Below.refl _ _))
          case fin =>
            intro v W' L hL hSW hf
            have h9 : v 15 = _ := hf 15 (Nat.lt_of_lt_of_eq (by decide : 15 < 16) rfl)
            have hTT : Two B w (blockT bk #[.int .i64 kind, .int .i64 i, .string s, .slice ka kn kc] 58 :: l) b rb D (D.write i (sec s)).2 R (R.write i (str (sec s))).2 true true W' := by
              have l3 := hL 6 (Nat.lt_of_lt_of_eq (by decide : 6 < 16) rfl)
              have l7 := hL 13 (Nat.lt_of_lt_of_eq (by decide : 13 < 16) rfl)
              have hS : Two B w (blockT bk #[.int .i64 kind, .int .i64 i, .string s, .slice ka kn kc] 58 :: l) b rb D (D.write i (sec s)).2 R (R.write i (str (sec s))).2 (L 6) (L 13) W' := hSW
              rw [l3, l7] at hS; exact hS
            clear hf
            generalize hF : Ord.pre _ _ v _ = F
            rw [Ord.pre_lit [some 53, some 54, some 55, some 56, some 57, some 58, some 59, some 60, some 61, some 62, some 63, some 64, some 65, some 66, some 67, some 6]
              (by kernel_rfl)] at hF
            simp only [Ord.puts, Nat.zero_add, Nat.reduceAdd] at hF
            subst hF
            rw [h9]
            have HT3 := Lib.hid hTT.drop
            clear hTT h9
            refine wpAny_done (by kernel_rfl) ?_ _
            try simp only [List.getElem_toArray, List.getElem_cons_succ, List.getElem_cons_zero]
            go_frame
            go_wp2_with fail
            go_ret
            exact ⟨rfl, HT3.out⟩
end Go.Proofs.Ytjnbdikhajnciaa.Drum
