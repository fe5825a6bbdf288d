/- Walks of the reference's digest: a block's rounds. -/
import Derived.Test.YtjnbdikhajnciaaDe
namespace Go.Proofs.Ytjnbdikhajnciaa.Dig
open Go.RowKit Go.Proofs.Ytjnbdikhajnciaa.Sha

theorem heap2_0 (w : World) (A B : Obj) : ((w.alloc A).alloc B).heap[w.heap.size]? = some A := heap_alloc2_old w A B
theorem heap2_1 (w : World) (A B : Obj) : ((w.alloc A).alloc B).heap[w.heap.size + 1]? = some B := heap_alloc2_new w A B

theorem setRow_alloc2 (w : World) (A : Obj) (c c' : Array Value) (t : TypeId) : ((w.alloc A).alloc (.cells c t)).setRow (w.heap.size + 1) c' = (w.alloc A).alloc (.cells c' t) := by
  have := World.setRow_alloc_new (w.alloc A) c c' t
  simpa using this

/-- What the reference's turn has in memory while its rounds go. -/
structure Rn (w wr : World) (D : Nat) (x : S8) (l : List UInt8) (cur : List (BitVec 32)) : Prop where
  st : Row 34 wr w.heap.size (S8.words x)
  out : Row 34 wr (w.heap.size + 1) (List.replicate 8 0)
  ws : Row 105 wr D (words l 64)
  cur : Row 34 wr (D + 1) cur
  far : w.heap.size + 1 < D
  below : Below w.heap.size w wr
theorem Rn.drewN {w wr : World} {D n : Nat} {x : S8} {l : List UInt8} {cur : List (BitVec 32)} (h : Rn w wr D x l cur) : Rn w (wr.drewN n) D x l cur := ⟨h.st, h.out, h.ws, h.cur, h.far, below_drewN' h.below⟩
theorem Rn.set {w wr : World} {D : Nat} {x : S8} {l : List UInt8} {cur : List (BitVec 32)} (h : Rn w wr D x l cur) (c : List (BitVec 32)) : Rn w (wr.setRow (D + 1) (Us c).toArray) D x l c := by
  have f := h.far
  exact ⟨(setRow_other _ _ _ _ (by omega)).trans h.st, (setRow_other _ _ _ _ (by omega)).trans h.out, (setRow_other _ _ _ _ (by omega)).trans h.ws, setRow_heap _ _ _ _ _ _ h.cur, f, h.below.trans ⟨rfl, rfl, rfl, by simp, fun j hj => setRow_other _ _ _ _ (by omega)⟩⟩
theorem Rn.store {w wr : World} {D : Nat} {x : S8} {l : List UInt8} {cur : List (BitVec 32)} (h : Rn w wr D x l cur) (i : Nat) (v : BitVec 32) : Rn w (wr.setCell ⟨D + 1, i, none⟩ (.int .u32 (u v))) D x l (cur.set i v) := by
  have f := h.far
  exact ⟨h.st.other _ _ (by show _ ≠ D + 1; omega), h.out.other _ _ (by show _ ≠ D + 1; omega), h.ws.other _ _ (by show _ ≠ D + 1; omega), h.cur.store i v, f, h.below.setCell (by show _ ≤ D + 1; omega) _⟩

/-- The words of a state, the first n of them with another one's added. -/
def part (s x : S8) (n : Nat) : List (BitVec 32) := (S8.words (s.add x)).take n ++ (S8.words s).drop n

theorem part_get (s x : S8) : ∀ j : Nat, j < 8 → (part s x j).getD j 0 = (S8.words s).getD j 0
  | 0, _ => rfl
  | 1, _ => rfl
  | 2, _ => rfl
  | 3, _ => rfl
  | 4, _ => rfl
  | 5, _ => rfl
  | 6, _ => rfl
  | 7, _ => rfl
theorem part_set (s x : S8) : ∀ j : Nat, j < 8 → (part s x j).set j ((S8.words s).getD j 0 + (S8.words x).getD j 0) = part s x (j + 1)
  | 0, _ => rfl
  | 1, _ => rfl
  | 2, _ => rfl
  | 3, _ => rfl
  | 4, _ => rfl
  | 5, _ => rfl
  | 6, _ => rfl
  | 7, _ => rfl
theorem part_len (s x : S8) (j : Nat) (h : j ≤ 8) : (part s x j).length = 8 := by simp [part, S8.words]; omega
theorem add_comm8 (x y : S8) : x.add y = y.add x := by simp [S8.add, BitVec.add_comm]

set_option maxRecDepth 100000 in
set_option maxHeartbeats 8000000 in
theorem refturn_any (x : S8) (b : ByteArray) (hb : b.size = 64) (w : World) :
    Calls Try.prog 43 #[.agg x.cells.toArray, .string b] w fun e w' => e = .returned (.agg (turn x b.data.toList).cells.toArray) ∧ Below w.heap.size w w' := by
  have HB := Lib.hid hb
  clear hb
  go_enter Try.func43, Try.ntmps43
  go_wp2_with fail
  refine (refwords_any b HB.out _).mono ?_
  rintro e w1 ⟨rfl, hb1⟩
  have r0 : Row 34 w1 w.heap.size (S8.words x) := (hb1.block _ (by simp; omega)).trans (heap2_0 w _ _)
  have r1 : Row 34 w1 (w.heap.size + 1) (List.replicate 8 0) := (hb1.block _ (by simp)).trans (heap2_1 w _ _)
  have hb2 : Below w.heap.size w w1 := (((Below.refl _ _).alloc (Nat.le_refl _) _).alloc (by simp) _).trans (hb1.mono (by simp; omega))
  clear hb1
  go_wp2_with (first
    | (refine wpList_store_row rfl 105 _ _ rfl w1.heap.size (Us (words b.data.toList 64)).toArray rfl rfl 105 _ (heap_alloc_last w1 _) (by rw [info105]; simp [Us, words_len]) (by simp [Us, words_len]) (Us_all _) ?_; rw [World.setRow_alloc_new])
    | (refine wpList_load_row rfl 34 _ rfl w.heap.size rfl 34 _ (0, 0) _ (r0.alloc (.cells (Us (words b.data.toList 64)).toArray 105)) Try.underlying34 rfl (by rw [info34]; rfl) ?_)
    | (refine wpList_store_row rfl 34 _ _ rfl (w1.heap.size + 1) (Us (S8.words x)).toArray rfl rfl 34 _ (heap2_1 w1 _ _) (by rw [info34]; rfl) (by simp [Us, S8.words]) (Us_all _) ?_; rw [setRow_alloc2]))
  obtain ⟨D, hD⟩ : ∃ D : Nat, D = w1.heap.size := ⟨_, rfl⟩
  have hR : Rn w ((w1.alloc (.cells (Us (words b.data.toList 64)).toArray 105)).alloc (.cells (Us (S8.words x)).toArray 34)) D x b.data.toList (S8.words x) := by
    subst hD
    exact ⟨(r0.alloc _).alloc _, (r1.alloc _).alloc _, heap2_0 w1 _ _, heap2_1 w1 _ _, r1.lt, (hb2.alloc (by have := r0.lt; omega) _).alloc (by have := r0.lt; simp; omega) _⟩
  rw [← hD]
  generalize ((w1.alloc (.cells (Us (words b.data.toList 64)).toArray 105)).alloc (.cells (Us (S8.words x)).toArray 34)) = w2 at *
  clear r0 r1 hb2 hD
  go_loopw [7] (fun i wr => ∃ k : Nat, k ≤ 64 ∧ i = .int .i64 k ∧ ∃ s : S8, Hid (s = rounds x (words b.data.toList 64) k) ∧ Rn w wr D x b.data.toList (S8.words s)) (fun i _ => 64 - (intOf i).toNat)
  case atStart => exact ⟨0, by omega, rfl, x, Lib.hid rfl, hR⟩
  case round =>
    clear hR
    obtain ⟨k, hk, rfl, s, hs, hR⟩ := hrel
    by_cases hlt : k < 64
    · have kb : (k : Int) < 64 := by omega
      have c0 : wr.cell? ⟨D + 1, 0, none⟩ = some (.int .u32 (u s.a)) := hR.cur.cell 0 (by simp [S8.words])
      have c1 : wr.cell? ⟨D + 1, 1, none⟩ = some (.int .u32 (u s.b)) := hR.cur.cell 1 (by simp [S8.words])
      have c2 : wr.cell? ⟨D + 1, 2, none⟩ = some (.int .u32 (u s.c)) := hR.cur.cell 2 (by simp [S8.words])
      have c3 : wr.cell? ⟨D + 1, 3, none⟩ = some (.int .u32 (u s.d)) := hR.cur.cell 3 (by simp [S8.words])
      have c4 : wr.cell? ⟨D + 1, 4, none⟩ = some (.int .u32 (u s.e)) := hR.cur.cell 4 (by simp [S8.words])
      have c5 : wr.cell? ⟨D + 1, 5, none⟩ = some (.int .u32 (u s.f)) := hR.cur.cell 5 (by simp [S8.words])
      have c6 : wr.cell? ⟨D + 1, 6, none⟩ = some (.int .u32 (u s.g)) := hR.cur.cell 6 (by simp [S8.words])
      have c7 : wr.cell? ⟨D + 1, 7, none⟩ = some (.int .u32 (u s.h)) := hR.cur.cell 7 (by simp [S8.words])
      have hwl := words_len b.data.toList 64
      have cw := hR.ws.cell k (by omega)
      clear hwl
      have hkc := k_any k hlt
      have HKC := Lib.hid hkc
      clear hkc
      generalize hkv : K.getD k 0 = kv at *
      generalize hwv : (words b.data.toList 64).getD k 0 = wv at *
      have HK := Lib.hid hkv
      have HW := Lib.hid hwv
      clear hkv hwv
      have x1 := bits_xor (rotr s.e 6) (rotr s.e 11)
      have x2 : bits .xor .u32 (u (rotr s.e 6 ^^^ rotr s.e 11)) (u (rotr s.e 25)) = u (S1 s.e) := bits_xor (rotr s.e 6 ^^^ rotr s.e 11) (rotr s.e 25)
      have x3 := wrap_add s.h (S1 s.e)
      have x4 := bits_and s.e s.f
      have x5 := bits_not' s.e
      have x6 := bits_and (~~~s.e) s.g
      have x7 : bits .xor .u32 (u (s.e &&& s.f)) (u (~~~s.e &&& s.g)) = u (ch s.e s.f s.g) := bits_xor (s.e &&& s.f) (~~~s.e &&& s.g)
      have x8 := wrap_add (s.h + S1 s.e) (ch s.e s.f s.g)
      have x9 := wrap_add (s.h + S1 s.e + ch s.e s.f s.g) kv
      have x10 := wrap_add (s.h + S1 s.e + ch s.e s.f s.g + kv) wv
      go_wp2_with fail
      refine wp_region_quiet_lit (by kernel_rfl) (by kernel_rfl) ?_
      repeat (quiet_step (fail))
      refine wpQuiet_nil ?_
      intro _ hw'
      obtain ⟨nq, hw''⟩ := hw'
      subst hw''
      go_wp2_with fail
      have hR1 := hR.drewN (n := nq)
      generalize wr.drewN nq = wr1 at *
      clear c0 c1 c2 c3 c4 c5 c6 c7 cw hR
      have c7 : wr1.cell? ⟨D + 1, 7, none⟩ = some (.int .u32 (u s.h)) := hR1.cur.cell 7 (by simp [S8.words])
      have c3 : wr1.cell? ⟨D + 1, 3, none⟩ = some (.int .u32 (u s.d)) := hR1.cur.cell 3 (by simp [S8.words])
      have hwl := words_len b.data.toList 64
      have cw := hR1.ws.cell k (by omega)
      rw [HW.out] at cw
      clear hwl
      refine wp_region_quiet_lit (by kernel_rfl) (by kernel_rfl) ?_
      repeat (quiet_step (fail))
      refine wpQuiet_step (fun K hK => ?_)
      go_simp
      apply Exists.intro
      refine ⟨fun _ => Calls.quiet_of (rot_6 _ _), hK _ ?_⟩
      clear hK K
      repeat (quiet_step (fail))
      refine wpQuiet_step (fun K hK => ?_)
      go_simp
      apply Exists.intro
      refine ⟨fun _ => Calls.quiet_of (rot_11 _ _), hK _ ?_⟩
      clear hK K
      repeat (quiet_step (fail))
      refine wpQuiet_step (fun K hK => ?_)
      go_simp
      apply Exists.intro
      refine ⟨fun _ => Calls.quiet_of (rot_25 _ _), hK _ ?_⟩
      clear hK K
      repeat (quiet_step (fail))
      refine wpQuiet_step (fun K hK => ?_)
      go_simp
      apply Exists.intro
      refine ⟨fun _ => Calls.quiet_of_same ((HKC.out _).mono fun _ _ h => ⟨h.1, h.2.symm⟩), hK _ ?_⟩
      clear hK K
      repeat (quiet_step (fail))
      refine wpQuiet_nil ?_
      intro _ hw'
      obtain ⟨nq, hw''⟩ := hw'
      subst hw''
      clear x1 x2 x3 x4 x5 x6 x7 x8 x9 x10
      generalize ht1 : s.h + S1 s.e + ch s.e s.f s.g + kv + wv = t1 at *
      have HT1 := Lib.hid ht1
      clear ht1
      have x1 := bits_xor (rotr s.a 2) (rotr s.a 13)
      have x2 : bits .xor .u32 (u (rotr s.a 2 ^^^ rotr s.a 13)) (u (rotr s.a 22)) = u (S0 s.a) := bits_xor (rotr s.a 2 ^^^ rotr s.a 13) (rotr s.a 22)
      have x3 := bits_and s.a s.b
      have x4 := bits_and s.a s.c
      have x5 := bits_and s.b s.c
      have x5' := bits_xor (s.a &&& s.b) (s.a &&& s.c)
      have x6 : bits .xor .u32 (u ((s.a &&& s.b) ^^^ (s.a &&& s.c))) (u (s.b &&& s.c)) = u (maj s.a s.b s.c) := bits_xor _ _
      have x7 := wrap_add (S0 s.a) (maj s.a s.b s.c)
      have x8 := wrap_add t1 (S0 s.a + maj s.a s.b s.c)
      have x9 := wrap_add s.d t1
      go_wp2_with fail
      refine (rot_2 _ _).mono ?_
      rintro e w3 ⟨rfl, n3, rfl⟩
      go_wp2_with fail
      refine (rot_13 _ _).mono ?_
      rintro e w3 ⟨rfl, n4, rfl⟩
      go_wp2_with fail
      refine (rot_22 _ _).mono ?_
      rintro e w3 ⟨rfl, n5, rfl⟩
      have hv : (⟨t1 + (S0 s.a + maj s.a s.b s.c), s.a, s.b, s.c, s.d + t1, s.e, s.f, s.g⟩ : S8) = Sha.step s kv wv := by
        rw [← HT1.out]; rfl
      have HV := Lib.hid hv
      clear hv
      go_wp2_with (refine wpList_store_row rfl 34 _ _ rfl (D + 1) (Us [t1 + (S0 s.a + maj s.a s.b s.c), s.a, s.b, s.c, s.d + t1, s.e, s.f, s.g]).toArray rfl rfl 34 _ hR1.cur (by rw [info34]; rfl) (by simp [Us, S8.words]) (Us_all _) ?_)
      go_roundw
      case rel =>
        refine ⟨k + 1, by omega, by go_num, Sha.step s kv wv, Lib.hid ?_, ?_⟩
        · rw [hs.out, ← HK.out, ← HW.out]; rfl
        · rw [← HV.out]; exact hR1.drewN.set _
      case measure => simp [intOf]; omega
    · have hs64 : s = rounds x (words b.data.toList 64) 64 := by
        have h := hs.out
        have e : k = 64 := by omega
        rw [e] at h
        exact h
      have HS := Lib.hid hs64
      clear hs64 hs
      have hd : decide ((k : Int) < 64) = false := decide_eq_false (by omega)
      go_wp2_with fail
      go_loopw [16] (fun i wr => ∃ j : Nat, j ≤ 8 ∧ i = .int .i64 j ∧ Rn w wr D x b.data.toList (part s x j)) (fun i _ => 8 - (intOf i).toNat)
      case atStart => exact ⟨0, by omega, rfl, hR⟩
      case round =>
        clear hR hd hlt hk
        obtain ⟨j, hj, rfl, hR⟩ := hrel
        by_cases hlt : j < 8
        · have jb : (j : Int) < 8 := by omega
          go_wp2_with fail
          refine region_tail 9 (by kernel_rfl) (by kernel_rfl) ?_
          intro w4 hw4
          have hR4 := hR.drewN (n := 1)
          rw [← World.drew_is_drewN, ← hw4] at hR4
          clear hw4 hR
          have cj := hR4.cur.cell j (by rw [part_len s x j (by omega)]; omega)
          have fj := hR4.cur.free j
          have dj := hR4.st.cell j (by simp [S8.words]; omega)
          rw [part_get s x j hlt] at cj
          have hset := part_set s x j hlt
          generalize (S8.words s).getD j 0 = sj at *
          generalize (S8.words x).getD j 0 = xj at *
          have HP := Lib.hid hset
          clear hset
          have ad := wrap_add sj xj
          simp only [List.take_succ_cons, List.take_zero, List.drop_succ_cons, List.drop_zero]
          repeat still_step
          try refine wpStill_nil ?_
          go_wp2_with fail
          go_roundw
          case rel =>
            refine ⟨j + 1, by omega, by go_num, ?_⟩
            rw [← HP.out]
            exact hR4.store j (sj + xj)
          case measure => simp [intOf]; omega
        · have hR8 : Rn w wr D x b.data.toList (S8.words (s.add x)) := by
            have e : j = 8 := by omega
            rw [e] at hR
            exact hR
          have hd : decide ((j : Int) < 8) = false := decide_eq_false (by omega)
          go_wp2_with (first
            | (refine wpList_load_row rfl 34 _ rfl (D + 1) rfl 34 _ (0, 0) _ hR8.cur Try.underlying34 rfl (by rw [info34]; rfl) ?_)
            | (refine wpList_store_row rfl 34 _ _ rfl (w.heap.size + 1) (Us (S8.words (s.add x))).toArray rfl rfl 34 _ hR8.out (by rw [info34]; rfl) (by simp [Us, S8.words]) (Us_all _) ?_))
          refine bodyPost_ret (v := .agg (turn x b.data.toList).cells.toArray) ((results_cell_row rfl _ _ (w.heap.size + 1) 34 (Us (S8.words (s.add x))).toArray (0, 0) _ rfl (setRow_heap _ _ _ _ _ _ hR8.out) Try.underlying34 rfl (by rw [info34]; rfl)).trans ?_) rfl ⟨rfl, ?_⟩
          · rw [HS.out, add_comm8]; rfl
          · exact hR8.below.trans ⟨rfl, rfl, rfl, by simp, fun j hj => setRow_other _ _ _ _ (by omega)⟩
end Go.Proofs.Ytjnbdikhajnciaa.Dig
