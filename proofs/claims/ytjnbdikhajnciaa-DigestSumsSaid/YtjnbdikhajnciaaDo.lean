/- Walks of the reference's digest: a text's blocks, padded. -/
import Derived.Test.YtjnbdikhajnciaaDn
import Derived.Test.YtjnbdikhajnciaaRg
namespace Go.Proofs.Ytjnbdikhajnciaa.Dig
open Go.RowKit Go.Proofs.Ytjnbdikhajnciaa.Sha Go.Proofs.Ytjnbdikhajnciaa.Ord Go.Proofs.YtjnbdikhajnciaaW.PrintWords

attribute [local go_sem] rdl_const rdl_func rdl_global rdl_nil rdl_cons

/-- New memory alone. -/
def NewMem (w w' : World) : Prop := Below w.heap.size w w'
theorem NewMem.refl (w : World) : NewMem w w := Below.refl _ _
theorem NewMem.trans {a b c : World} (h : NewMem a b) (k : NewMem b c) : NewMem a c := Below.trans h (Below.mono k (Below.size h))
theorem NewMem.alloc (w : World) (o : Obj) : NewMem w (w.alloc o) := (Below.refl _ _).alloc (Nat.le_refl _) _
/-- A slice of bytes of the call's own. -/
def OwnB (w : World) (v : Value) (l : List UInt8) : Prop := w.ownsRow 0 5 1 v l.length (nums .u8 (ints l))
theorem OwnB.kept {w w' : World} {v : Value} {l : List UInt8} (h : OwnB w v l) (hb : NewMem w w') : OwnB w' v l :=
  World.ownsRow.kept h (grown_below hb none) (by cases hv : v.ownBlock <;> simp)
def ownF (l : List UInt8) : Fact NewMem := ⟨fun v w => OwnB w v l, fun _ _ _ h k => h.kept k⟩
theorem OwnB.string {w : World} {v : Value} {l : List UInt8} (h : OwnB w v l) : (convert 87 9 v).run Try.prog w = .ok (.string ⟨l.toArray⟩) w := by
  have := own_string (P := Try.prog) Try.underlying87 Try.underlying5 Try.underlying9 h
  rw [str_ints] at this; exact this
theorem OwnB.new (w : World) (l : List UInt8) (hl : l.length ≤ 1000000) : OwnB (w.alloc (.cells (nums .u8 (ints l)).toArray 5)) (.slice (some ⟨w.heap.size, 0, none⟩) l.length l.length) l :=
  ⟨by simp [nums, ints], .inr ⟨_, l.length, _, rfl, Nat.zero_le _, heap_alloc_last w _, Nat.le_refl _, by unfold maxLen; omega, by simp [nums, ints], by simp [nums, ints, List.take_of_length_le]⟩⟩
theorem make_bytes (p : Nat) (hp : p ≤ 1000000) (w : World) : ∃ w', (Instr.makeSlice 87 (.int .i64 (p : Int)) (.int .i64 (p : Int))).run Try.prog w = .ok (.slice (some ⟨w.heap.size, 0, none⟩) p p) w' ∧ OwnB w' (.slice (some ⟨w.heap.size, 0, none⟩) p p) (List.replicate p 0) ∧ NewMem w w' := by
  obtain ⟨i0, hi, hz0, hz1, hz2⟩ := info_parts info5
  have h := run_make (P := Try.prog) w 87 5 i0 (.int .u8 0) Try.underlying87 hi hz0 .i64 .i64 (p : Int) (p : Int) (by omega) (by omega) (by rw [hz2]; omega) (by omega)
  refine ⟨_, h, ?_, NewMem.alloc _ _⟩
  have e : madeCells (Value.int .u8 0).cells ((p : Int).toNat * i0.size) = (nums .u8 (ints (List.replicate p 0))).toArray := by
    rw [hz1]
    apply Array.ext
    · simp [madeCells, nums, ints]
    · intro j h1 h2
      simp [madeCells, nums, ints, Value.cells, Nat.mod_one]
  rw [e]
  have := OwnB.new w (List.replicate p 0) (by simpa using hp)
  simpa using this

theorem lens_bytes (n : Nat) (hn : n ≤ 1000000) : Sha.bytesOf (BitVec.ofNat 32 (n / 536870912)) ++ Sha.bytesOf (BitVec.ofNat 32 (n * 8)) = lens n 8 := by
  have h1 : n / 536870912 = 0 := by omega
  have h2 : n * 8 < 4294967296 := by omega
  have hb : (BitVec.ofNat 32 (n * 8)).toNat = n * 8 := by rw [BitVec.toNat_ofNat]; omega
  have hz : ∀ k : Nat, 2 ^ 32 ≤ k → n * 8 / k = 0 := fun k hk => Nat.div_eq_of_lt (by omega)
  rw [h1]
  simp only [Sha.bytesOf, hb, lens, List.range, List.range.loop, List.map_cons, List.map_nil, List.cons_append, List.nil_append]
  simp [hz]

set_option maxRecDepth 100000 in
set_option maxHeartbeats 8000000 in
theorem padded_any (s : ByteArray) (hs : s.size ≤ 800000) (w : World) :
    Calls Try.prog 42 #[.string s] w fun e w' => e = .returned (.string ⟨(s.data.toList ++ tail s.size).toArray⟩) ∧ NewMem w w' := by
  obtain ⟨p, hp⟩ : ∃ p : Nat, p = (119 - s.size % 64) % 64 := ⟨_, rfl⟩
  obtain ⟨v1, hv1⟩ : ∃ v : BitVec 32, v = BitVec.ofNat 32 (s.size / 536870912) := ⟨_, rfl⟩
  obtain ⟨v2, hv2⟩ : ∃ v : BitVec 32, v = BitVec.ofNat 32 (s.size * 8) := ⟨_, rfl⟩
  have q1 : IntKind.u64.wrap (s.size : Int) = (s.size : Int) := u64w _ (by omega)
  have q2 : IntKind.u32.wrap ((s.size : Int) / 536870912) = u v1 := by rw [hv1, IntKind.wrap_u32]; simp [u]
  have q3 : IntKind.u64.wrap ((s.size : Int) * 8) = (s.size : Int) * 8 := u64w _ (by omega)
  have q4 : IntKind.u32.wrap ((s.size : Int) * 8) = u v2 := by rw [hv2, IntKind.wrap_u32]; simp [u]
  have hpl : p ≤ 63 := by omega
  have hP : ((119 : Int) - (s.size : Int) % 64) % 64 = (p : Int) := by omega
  have hlb := lens_bytes s.size (by omega)
  rw [← hv1, ← hv2] at hlb
  have htl : tail s.size = [0x80] ++ List.replicate p 0 ++ (Sha.bytesOf v1 ++ Sha.bytesOf v2) := by rw [hlb, hp]; rfl
  have HTL := Lib.hid htl
  obtain ⟨t80, h80⟩ : ∃ t : ByteArray, t = ⟨([0x80] : List UInt8).toArray⟩ := ⟨_, rfl⟩
  obtain ⟨tz, hz⟩ : ∃ t : ByteArray, t = ⟨(List.replicate p (0 : UInt8)).toArray⟩ := ⟨_, rfl⟩
  obtain ⟨tb1, hb1⟩ : ∃ t : ByteArray, t = ⟨(Sha.bytesOf v1).toArray⟩ := ⟨_, rfl⟩
  obtain ⟨tb2, hb2⟩ : ∃ t : ByteArray, t = ⟨(Sha.bytesOf v2).toArray⟩ := ⟨_, rfl⟩
  have z80 : t80.size ≤ 100 := by rw [h80]; exact (by decide : 1 ≤ 100)
  have zz : tz.size ≤ 100 := by rw [hz]; show (List.replicate p (0 : UInt8)).toArray.size ≤ 100; simp; omega
  have zb1 : tb1.size ≤ 100 := by rw [hb1]; exact (by decide : 4 ≤ 100)
  have zb2 : tb2.size ≤ 100 := by rw [hb2]; exact (by decide : 4 ≤ 100)
  have k1 : ¬ (9223372036854775807 < s.size + t80.size) := by omega
  have k2 : ¬ (9223372036854775807 < s.size + t80.size + tz.size) := by omega
  have k3 : ¬ (9223372036854775807 < s.size + t80.size + tz.size + tb1.size) := by omega
  have k4 : ¬ (9223372036854775807 < s.size + t80.size + tz.size + tb1.size + tb2.size) := by omega
  have c80 : ∀ (W : World) (v : Value), OwnB W v [0x80] → (convert 87 9 v).run Try.prog W = .ok (.string t80) W := fun W v h => by rw [h80]; exact h.string
  have cz : ∀ (W : World) (v : Value), OwnB W v (List.replicate p 0) → (convert 87 9 v).run Try.prog W = .ok (.string tz) W := fun W v h => by rw [hz]; exact h.string
  have cb1 : ∀ W : World, Calls Try.prog 44 #[.int .u32 (u v1)] W fun e w' => e = .returned (.string tb1) ∧ NewMem W w' := fun W => by rw [hb1]; exact refbytes_any v1 W
  have cb2 : ∀ W : World, Calls Try.prog 44 #[.int .u32 (u v2)] W fun e w' => e = .returned (.string tb2) ∧ NewMem W w' := fun W => by rw [hb2]; exact refbytes_any v2 W
  have hfin : (⟨(s.data.toList ++ tail s.size).toArray⟩ : ByteArray) = s ++ t80 ++ tz ++ tb1 ++ tb2 := by
    rw [HTL.out, h80, hz, hb1, hb2]
    apply ByteArray.ext
    simp [List.append_assoc]
  have hmk := make_bytes p (by omega)
  have C80 := Lib.hid c80
  have CZ := Lib.hid cz
  have CB1 := Lib.hid cb1
  have CB2 := Lib.hid cb2
  have HF := Lib.hid hfin
  have HMK := Lib.hid hmk
  clear hp hv1 hv2 hlb htl h80 hz hb1 hb2 c80 cz cb1 cb2 hfin hmk
  go_enter Try.func42, Try.ntmps42
  go_wp2_with fail
  try rw [hP]
  refine' wp_region_facts (S := (fun W => NewMem w W)) (R := NewMem) [eqF _ _, ownF [0x80], eqF _ (.string t80), eqF _ _, eqF _ _, ownF (List.replicate p 0), eqF _ (.string tz), eqF _ _, eqF _ _, eqF _ _, eqF _ _, eqF _ _, eqF _ (.string tb1), eqF _ _, eqF _ _, eqF _ _, eqF _ _, eqF _ _, eqF _ (.string tb2), eqF _ _, eqF _ _] (by kernel_rfl) (by kernel_rfl) ?hS ?h0 (steps_cons ?s0 (steps_cons ?s1 (steps_cons ?s2 (steps_cons ?s3 (steps_cons ?s4 (steps_cons ?s5 (steps_cons ?s6 (steps_cons ?s7 (steps_cons ?s8 (steps_cons ?s9 (steps_cons ?s10 (steps_cons ?s11 (steps_cons ?s12 (steps_cons ?s13 (steps_cons ?s14 (steps_cons ?s15 (steps_cons ?s16 (steps_cons ?s17 (steps_cons ?s18 (steps_cons ?s19 (steps_cons ?s20 (steps_nil)))))))))))))))))))))) ?fin
  case s0 =>
    intro g W hSW hd
    try simp only [Nat.zero_add, Nat.reduceAdd] at hd ⊢
    with_reducible refine OpGives.pre_reads [] 31 ?_ ?_ ?_
    · rfl
    · kernel_rfl
    simp only [List.map_cons, List.map_nil]
    refine OpGives.val (w' := W) ?_ ⟨NewMem.refl _, rfl⟩
    go_simp
    try with_reducible rfl
  case s1 =>
    intro g W hSW hd
    try simp only [Nat.zero_add, Nat.reduceAdd] at hd ⊢
    with_reducible refine OpGives.pre_reads [] 31 ?_ ?_ ?_
    · rfl
    · kernel_rfl
    simp only [List.map_cons, List.map_nil]
    refine OpGives.val (v := .slice (some ⟨W.heap.size, 0, none⟩) 1 1) (w' := W.alloc (.cells #[.int .u8 128] 5)) ?_ ⟨NewMem.alloc _ _, OwnB.new W [0x80] (by simp)⟩; go_simp
  case s2 =>
    intro g W hSW hd
    try simp only [Nat.zero_add, Nat.reduceAdd] at hd ⊢
    have h1 := hd 1 (by decide) (by kernel_rfl)
    change (ownF [0x80]).p (g 1) W at h1
    with_reducible refine OpGives.pre_reads [(12, 1)] 31 ?_ ?_ ?_
    · rfl
    · kernel_rfl
    simp only [List.map_cons, List.map_nil]
    have hc := C80.out W _ h1; refine OpGives.val (v := .string t80) (w' := W) ?_ ⟨NewMem.refl _, rfl⟩; go_simp
  case s3 =>
    intro g W hSW hd
    try simp only [Nat.zero_add, Nat.reduceAdd] at hd ⊢
    have h0 : g 0 = _ := hd 0 (by decide) (by kernel_rfl)
    have h2 : g 2 = _ := hd 2 (by decide) (by kernel_rfl)
    with_reducible refine OpGives.pre_reads [(11, 0), (13, 2)] 31 ?_ ?_ ?_
    · rfl
    · kernel_rfl
    simp only [List.map_cons, List.map_nil]
    refine OpGives.val (w' := W) ?_ ⟨NewMem.refl _, rfl⟩
    go_simp
    try with_reducible rfl
  case s4 =>
    intro g W hSW hd
    try simp only [Nat.zero_add, Nat.reduceAdd] at hd ⊢
    with_reducible refine OpGives.pre_reads [] 31 ?_ ?_ ?_
    · rfl
    · kernel_rfl
    simp only [List.map_cons, List.map_nil]
    refine OpGives.val (w' := W) ?_ ⟨NewMem.refl _, rfl⟩
    go_simp
    try with_reducible rfl
  case s5 =>
    intro g W hSW hd
    try simp only [Nat.zero_add, Nat.reduceAdd] at hd ⊢
    have h4 : g 4 = _ := hd 4 (by decide) (by kernel_rfl)
    with_reducible refine OpGives.pre_reads [(15, 4)] 31 ?_ ?_ ?_
    · rfl
    · kernel_rfl
    simp only [List.map_cons, List.map_nil]
    obtain ⟨w', hr, hown, hnew⟩ := HMK.out W; refine OpGives.val (v := .slice (some ⟨W.heap.size, 0, none⟩) p p) (w' := w') ?_ ⟨hnew, hown⟩; go_simp
  case s6 =>
    intro g W hSW hd
    try simp only [Nat.zero_add, Nat.reduceAdd] at hd ⊢
    have h5 := hd 5 (by decide) (by kernel_rfl)
    change (ownF (List.replicate p 0)).p (g 5) W at h5
    with_reducible refine OpGives.pre_reads [(16, 5)] 31 ?_ ?_ ?_
    · rfl
    · kernel_rfl
    simp only [List.map_cons, List.map_nil]
    have hc := CZ.out W _ h5; refine OpGives.val (v := .string tz) (w' := W) ?_ ⟨NewMem.refl _, rfl⟩; go_simp
  case s7 =>
    intro g W hSW hd
    try simp only [Nat.zero_add, Nat.reduceAdd] at hd ⊢
    have h3 : g 3 = _ := hd 3 (by decide) (by kernel_rfl)
    have h6 : g 6 = _ := hd 6 (by decide) (by kernel_rfl)
    with_reducible refine OpGives.pre_reads [(14, 3), (17, 6)] 31 ?_ ?_ ?_
    · rfl
    · kernel_rfl
    simp only [List.map_cons, List.map_nil]
    refine OpGives.val (w' := W) ?_ ⟨NewMem.refl _, rfl⟩
    go_simp
    try with_reducible rfl
  case s8 =>
    intro g W hSW hd
    try simp only [Nat.zero_add, Nat.reduceAdd] at hd ⊢
    with_reducible refine OpGives.pre_reads [] 31 ?_ ?_ ?_
    · rfl
    · kernel_rfl
    simp only [List.map_cons, List.map_nil]
    refine OpGives.val (w' := W) ?_ ⟨NewMem.refl _, rfl⟩
    go_simp
    try with_reducible rfl
  case s9 =>
    intro g W hSW hd
    try simp only [Nat.zero_add, Nat.reduceAdd] at hd ⊢
    have h8 : g 8 = _ := hd 8 (by decide) (by kernel_rfl)
    with_reducible refine OpGives.pre_reads [(19, 8)] 31 ?_ ?_ ?_
    · rfl
    · kernel_rfl
    simp only [List.map_cons, List.map_nil]
    refine OpGives.val (w' := W) ?_ ⟨NewMem.refl _, rfl⟩
    go_simp
    try with_reducible rfl
  case s10 =>
    intro g W hSW hd
    try simp only [Nat.zero_add, Nat.reduceAdd] at hd ⊢
    have h9 : g 9 = _ := hd 9 (by decide) (by kernel_rfl)
    with_reducible refine OpGives.pre_reads [(20, 9)] 31 ?_ ?_ ?_
    · rfl
    · kernel_rfl
    simp only [List.map_cons, List.map_nil]
    refine OpGives.val (w' := W) ?_ ⟨NewMem.refl _, rfl⟩
    go_simp
    try with_reducible rfl
  case s11 =>
    intro g W hSW hd
    try simp only [Nat.zero_add, Nat.reduceAdd] at hd ⊢
    have h10 : g 10 = _ := hd 10 (by decide) (by kernel_rfl)
    with_reducible refine OpGives.pre_reads [(21, 10)] 31 ?_ ?_ ?_
    · rfl
    · kernel_rfl
    simp only [List.map_cons, List.map_nil]
    refine OpGives.val (w' := W) ?_ ⟨NewMem.refl _, rfl⟩
    go_simp
    try with_reducible rfl
  case s12 =>
    intro g W hSW hd
    try simp only [Nat.zero_add, Nat.reduceAdd] at hd ⊢
    have h11 : g 11 = _ := hd 11 (by decide) (by kernel_rfl)
    with_reducible refine OpGives.pre_reads [(22, 11)] 31 ?_ ?_ ?_
    · rfl
    · kernel_rfl
    simp only [List.map_cons, List.map_nil]
    refine OpGives.call (f := 44) (args := #[.int .u32 (u v1)]) (w' := W) (by go_simp) ((CB1.out W).mono fun e w' ⟨he, hn⟩ => ⟨_, he, hn, rfl⟩)
  case s13 =>
    intro g W hSW hd
    try simp only [Nat.zero_add, Nat.reduceAdd] at hd ⊢
    have h7 : g 7 = _ := hd 7 (by decide) (by kernel_rfl)
    have h12 : g 12 = _ := hd 12 (by decide) (by kernel_rfl)
    with_reducible refine OpGives.pre_reads [(18, 7), (23, 12)] 31 ?_ ?_ ?_
    · rfl
    · kernel_rfl
    simp only [List.map_cons, List.map_nil]
    refine OpGives.val (w' := W) ?_ ⟨NewMem.refl _, rfl⟩
    go_simp
    try with_reducible rfl
  case s14 =>
    intro g W hSW hd
    try simp only [Nat.zero_add, Nat.reduceAdd] at hd ⊢
    with_reducible refine OpGives.pre_reads [] 31 ?_ ?_ ?_
    · rfl
    · kernel_rfl
    simp only [List.map_cons, List.map_nil]
    refine OpGives.val (w' := W) ?_ ⟨NewMem.refl _, rfl⟩
    go_simp
    try with_reducible rfl
  case s15 =>
    intro g W hSW hd
    try simp only [Nat.zero_add, Nat.reduceAdd] at hd ⊢
    have h14 : g 14 = _ := hd 14 (by decide) (by kernel_rfl)
    with_reducible refine OpGives.pre_reads [(25, 14)] 31 ?_ ?_ ?_
    · rfl
    · kernel_rfl
    simp only [List.map_cons, List.map_nil]
    refine OpGives.val (w' := W) ?_ ⟨NewMem.refl _, rfl⟩
    go_simp
    try with_reducible rfl
  case s16 =>
    intro g W hSW hd
    try simp only [Nat.zero_add, Nat.reduceAdd] at hd ⊢
    have h15 : g 15 = _ := hd 15 (by decide) (by kernel_rfl)
    with_reducible refine OpGives.pre_reads [(26, 15)] 31 ?_ ?_ ?_
    · rfl
    · kernel_rfl
    simp only [List.map_cons, List.map_nil]
    refine OpGives.val (w' := W) ?_ ⟨NewMem.refl _, rfl⟩
    go_simp
    try with_reducible rfl
  case s17 =>
    intro g W hSW hd
    try simp only [Nat.zero_add, Nat.reduceAdd] at hd ⊢
    have h16 : g 16 = _ := hd 16 (by decide) (by kernel_rfl)
    with_reducible refine OpGives.pre_reads [(27, 16)] 31 ?_ ?_ ?_
    · rfl
    · kernel_rfl
    simp only [List.map_cons, List.map_nil]
    refine OpGives.val (w' := W) ?_ ⟨NewMem.refl _, rfl⟩
    go_simp
    try with_reducible rfl
  case s18 =>
    intro g W hSW hd
    try simp only [Nat.zero_add, Nat.reduceAdd] at hd ⊢
    have h17 : g 17 = _ := hd 17 (by decide) (by kernel_rfl)
    with_reducible refine OpGives.pre_reads [(28, 17)] 31 ?_ ?_ ?_
    · rfl
    · kernel_rfl
    simp only [List.map_cons, List.map_nil]
    refine OpGives.call (f := 44) (args := #[.int .u32 (u v2)]) (w' := W) (by go_simp) ((CB2.out W).mono fun e w' ⟨he, hn⟩ => ⟨_, he, hn, rfl⟩)
  case s19 =>
    intro g W hSW hd
    try simp only [Nat.zero_add, Nat.reduceAdd] at hd ⊢
    have h13 : g 13 = _ := hd 13 (by decide) (by kernel_rfl)
    have h18 : g 18 = _ := hd 18 (by decide) (by kernel_rfl)
    with_reducible refine OpGives.pre_reads [(24, 13), (29, 18)] 31 ?_ ?_ ?_
    · rfl
    · kernel_rfl
    simp only [List.map_cons, List.map_nil]
    refine OpGives.val (w' := W) ?_ ⟨NewMem.refl _, rfl⟩
    go_simp
    try with_reducible rfl
  case s20 =>
    intro g W hSW hd
    try simp only [Nat.zero_add, Nat.reduceAdd] at hd ⊢
    have h19 : g 19 = _ := hd 19 (by decide) (by kernel_rfl)
    with_reducible refine OpGives.pre_reads [(30, 19)] 31 ?_ ?_ ?_
    · rfl
    · kernel_rfl
    simp only [List.map_cons, List.map_nil]
    refine OpGives.val (w' := W) ?_ ⟨NewMem.refl _, rfl⟩
    go_simp
    try with_reducible rfl
  case hS => exact fun a b h k => NewMem.trans h k
  case h0 => exact below_drewN' (n := 1) (Below.refl _ _)
  case fin =>
    intro g W hSW hf
    have h20 : g 20 = _ := hf 20 (by simp)
    refine wpAny_done (by kernel_rfl) ?_ _
    generalize hF : Ord.pre _ _ g _ = F
    rw [Ord.pre_lit [some 11, some 12, some 13, some 14, some 15, some 16, some 17, some 18, some 19, some 20, some 21, some 22, some 23, some 24, some 25, some 26, some 27, some 28, some 29, some 30, some 2]
      (by kernel_rfl)] at hF
    simp only [Ord.puts, Nat.zero_add, Nat.reduceAdd] at hF
    subst hF
    rw [h20]
    clear hf
    go_wp2
    go_frame
    go_ret
    refine ⟨?_, hSW⟩
    rw [HF.out]; rfl
end Go.Proofs.Ytjnbdikhajnciaa.Dig
