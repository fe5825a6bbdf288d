/- Walks of the digest: a block's rounds. -/
import Derived.Test.YtjnbdikhajnciaaDd
namespace Go.Proofs.Ytjnbdikhajnciaa.Dig
open Go.RowKit Go.Proofs.Ytjnbdikhajnciaa.Sha

theorem info35 : (Try.prog.info? 35).map (·.size) = some 8 := by kernel_rfl
theorem info34 : (Try.prog.info? 34).map (·.size) = some 8 := by kernel_rfl
def S8.words (x : S8) : List (BitVec 32) := [x.a, x.b, x.c, x.d, x.e, x.f, x.g, x.h]
theorem S8.cells_words (x : S8) : x.cells = Us (S8.words x) := rfl

theorem S8.all (x : S8) : x.cells.toArray.all (·.oneCell') = true := Us_all (S8.words x)

theorem Row.below {t : TypeId} {w w' : World} {b B : Nat} {cur : List (BitVec 32)} (h : Row t w b cur) (hb : Below B w w') (hlt : b < B) : Row t w' b cur := by
  unfold Row at *; rw [hb.block b hlt]; exact h
theorem Row.lt {t : TypeId} {w : World} {b : Nat} {cur : List (BitVec 32)} (h : Row t w b cur) : b < w.heap.size := (Array.getElem?_eq_some_iff.1 h).1
theorem Row.alloc {t : TypeId} {w : World} {b : Nat} {cur : List (BitVec 32)} (h : Row t w b cur) (o : Obj) : Row t (w.alloc o) b cur :=
  (Below.heap_alloc w o b h.lt).trans h
theorem heap3_0 (w : World) (A B C : Obj) : (((w.alloc A).alloc B).alloc C).heap[w.heap.size]? = some A := by
  rw [Below.heap_alloc _ _ _ (by simp; omega), Below.heap_alloc _ _ _ (by simp)]; exact heap_alloc_last w A
theorem heap3_1 (w : World) (A B C : Obj) : (((w.alloc A).alloc B).alloc C).heap[w.heap.size + 1]? = some B := by
  rw [Below.heap_alloc _ _ _ (by simp)]; simpa using heap_alloc_last (w.alloc A) B
theorem heap3_2 (w : World) (A B C : Obj) : (((w.alloc A).alloc B).alloc C).heap[w.heap.size + 2]? = some C := by
  simpa using heap_alloc_last ((w.alloc A).alloc B) C
theorem Row.new (t : TypeId) (w : World) (cur : List (BitVec 32)) : Row t (w.alloc (.cells (Us cur).toArray t)) w.heap.size cur := heap_alloc_last w _

/-- What a turn has in memory while its rounds go. -/
structure Tn (w wr : World) (D : Nat) (x : S8) (l : List UInt8) : Prop where
  st : Row 35 wr w.heap.size (S8.words x)
  ks : Row 109 wr (w.heap.size + 1) K
  out : Row 35 wr (w.heap.size + 2) (List.replicate 8 0)
  ws : Row 109 wr D (words l 64)
  below : Below w.heap.size w wr
theorem Tn.drewN {w wr : World} {D n : Nat} {x : S8} {l : List UInt8} (h : Tn w wr D x l) : Tn w (wr.drewN n) D x l := ⟨h.st, h.ks, h.out, h.ws, below_drewN' h.below⟩

set_option maxRecDepth 100000 in
set_option maxHeartbeats 8000000 in
theorem turn_any (x : S8) (b : ByteArray) (hb : b.size = 64) (w : World) :
    Calls Try.prog 73 #[.agg x.cells.toArray, .agg (Us K).toArray, .string b] w fun e w' => e = .returned (.agg (turn x b.data.toList).cells.toArray) ∧ Below w.heap.size w w' := by
  have HB := Lib.hid hb
  clear hb
  go_enter Try.func73, Try.ntmps73
  go_wp2_with fail
  refine (spread_any b HB.out _).mono ?_
  rintro e w1 ⟨rfl, hb1⟩
  have r0 : Row 35 w1 w.heap.size (S8.words x) := (hb1.block _ (by simp; omega)).trans (heap3_0 w _ _ _)
  have r1 : Row 109 w1 (w.heap.size + 1) K := (hb1.block _ (by simp)).trans (heap3_1 w _ _ _)
  have r2 : Row 35 w1 (w.heap.size + 2) (List.replicate 8 0) := (hb1.block _ (by simp)).trans (heap3_2 w _ _ _)
  have hb2 : Below w.heap.size w w1 := ((((Below.refl _ _).alloc (Nat.le_refl _) _).alloc (by simp) _).alloc (by simp; omega) _).trans (hb1.mono (by simp; omega))
  clear hb1
  go_wp2_with (refine wpList_store_row rfl 109 _ _ rfl w1.heap.size (Us (words b.data.toList 64)).toArray rfl rfl 109 _ (heap_alloc_last w1 _) (by rw [info109]; simp [Us, words_len]) (by simp [Us, words_len]) (Us_all _) ?_; rw [World.setRow_alloc_new])
  have hT : Tn w (w1.alloc (.cells (Us (words b.data.toList 64)).toArray 109)) w1.heap.size x b.data.toList := ⟨r0.alloc _, r1.alloc _, r2.alloc _, Row.new _ _ _, hb2.alloc (by have := r0.lt; omega) _⟩
  obtain ⟨D, hD⟩ : ∃ D : Nat, D = w1.heap.size := ⟨_, rfl⟩
  rw [← hD] at hT ⊢
  generalize w1.alloc (.cells (Us (words b.data.toList 64)).toArray 109) = w2 at *
  clear r0 r1 r2 hb2 hD
  have c0 : w2.cell? ⟨w.heap.size, 0, none⟩ = some (.int .u32 (u x.a)) := hT.st.cell 0 (by simp [S8.words])
  have c1 : w2.cell? ⟨w.heap.size, 1, none⟩ = some (.int .u32 (u x.b)) := hT.st.cell 1 (by simp [S8.words])
  have c2 : w2.cell? ⟨w.heap.size, 2, none⟩ = some (.int .u32 (u x.c)) := hT.st.cell 2 (by simp [S8.words])
  have c3 : w2.cell? ⟨w.heap.size, 3, none⟩ = some (.int .u32 (u x.d)) := hT.st.cell 3 (by simp [S8.words])
  have c4 : w2.cell? ⟨w.heap.size, 4, none⟩ = some (.int .u32 (u x.e)) := hT.st.cell 4 (by simp [S8.words])
  have c5 : w2.cell? ⟨w.heap.size, 5, none⟩ = some (.int .u32 (u x.f)) := hT.st.cell 5 (by simp [S8.words])
  have c6 : w2.cell? ⟨w.heap.size, 6, none⟩ = some (.int .u32 (u x.g)) := hT.st.cell 6 (by simp [S8.words])
  have c7 : w2.cell? ⟨w.heap.size, 7, none⟩ = some (.int .u32 (u x.h)) := hT.st.cell 7 (by simp [S8.words])
  go_quiet (fail)
  go_wp2_with fail
  clear c0 c1 c2 c3 c4 c5 c6 c7
  go_loopw [8, 9, 10, 11, 12, 13, 14, 15, 37] (fun va vb vc vd ve vf vg vh i wr => ∃ k : Nat, k ≤ 64 ∧ i = .int .i64 k ∧ Tn w wr D x b.data.toList ∧ ∃ s : S8, Hid (s = rounds x (words b.data.toList 64) k) ∧ va = .int .u32 (u s.a) ∧ vb = .int .u32 (u s.b) ∧ vc = .int .u32 (u s.c) ∧ vd = .int .u32 (u s.d) ∧ ve = .int .u32 (u s.e) ∧ vf = .int .u32 (u s.f) ∧ vg = .int .u32 (u s.g) ∧ vh = .int .u32 (u s.h)) (fun _ _ _ _ _ _ _ _ i _ => 64 - (intOf i).toNat)
  case atStart => exact ⟨0, by omega, rfl, hT.drewN, x, Lib.hid rfl, rfl, rfl, rfl, rfl, rfl, rfl, rfl, rfl⟩
  case round =>
    clear hT
    obtain ⟨k, hk, rfl, hT, s, hs, rfl, rfl, rfl, rfl, rfl, rfl, rfl, rfl⟩ := hrel
    by_cases hlt : k < 64
    · have kb : (k : Int) < 64 := by omega
      have hwl := words_len b.data.toList 64
      have ck := hT.ks.cell k (by rw [K_len]; omega)
      have cw := hT.ws.cell k (by omega)
      clear hwl
      generalize hkv : K.getD k 0 = kv at *
      generalize hwv : (words b.data.toList 64).getD k 0 = wv at *
      have HK := Lib.hid hkv
      have HW := Lib.hid hwv
      clear hkv hwv
      have x1 := bits_xor (rotr s.e 6) (rotr s.e 11)
      have x2 : bits .xor .u32 (u (rotr s.e 6 ^^^ rotr s.e 11)) (u (rotr s.e 25)) = u (S1 s.e) := bits_xor (rotr s.e 6 ^^^ rotr s.e 11) (rotr s.e 25)
      have x3 := wrap_add s.h (S1 s.e)
      have x4 := bits_and s.e s.f
      have x5 := bits_not s.e
      have x5' : (if IntKind.u32.signed = true then (-1 : Int) else IntKind.u32.max) = 4294967295 := rfl
      have x6 := bits_and (~~~s.e) s.g
      have x7 : bits .xor .u32 (u (s.e &&& s.f)) (u (~~~s.e &&& s.g)) = u (ch s.e s.f s.g) := bits_xor (s.e &&& s.f) (~~~s.e &&& s.g)
      have x8 := wrap_add (s.h + S1 s.e) (ch s.e s.f s.g)
      have x9 := wrap_add (s.h + S1 s.e + ch s.e s.f s.g) kv
      have x10 := wrap_add (s.h + S1 s.e + ch s.e s.f s.g + kv) wv
      go_wp2_with fail
      refine wp_region_quiet_lit (by kernel_rfl) (by kernel_rfl) ?_
      repeat (quiet_step (fail))
      refine wpQuiet_step (fun K hK => ?_)
      go_simp
      apply Exists.intro
      refine ⟨fun _ => Calls.quiet_of_same (right_6 _ _), hK _ ?_⟩
      clear hK K
      repeat (quiet_step (fail))
      refine wpQuiet_step (fun K hK => ?_)
      go_simp
      apply Exists.intro
      refine ⟨fun _ => Calls.quiet_of_same (right_11 _ _), hK _ ?_⟩
      clear hK K
      repeat (quiet_step (fail))
      refine wpQuiet_step (fun K hK => ?_)
      go_simp
      apply Exists.intro
      refine ⟨fun _ => Calls.quiet_of_same (right_25 _ _), hK _ ?_⟩
      clear hK K
      repeat (quiet_step (fail))
      refine wpQuiet_nil ?_
      intro _ hw'
      obtain ⟨nq, hw''⟩ := hw'
      subst hw''
      clear x1 x2 x3 x4 x5 x5' x6 x7 x8 x9 x10
      generalize ht1 : s.h + S1 s.e + ch s.e s.f s.g + kv + wv = t1 at *
      have HT1 := Lib.hid ht1
      clear ht1
      have x1 := bits_xor (rotr s.a 2) (rotr s.a 13)
      have x2 : bits .xor .u32 (u (rotr s.a 2 ^^^ rotr s.a 13)) (u (rotr s.a 22)) = u (S0 s.a) := bits_xor (rotr s.a 2 ^^^ rotr s.a 13) (rotr s.a 22)
      have x3 := bits_xor s.b s.c
      have x4 := bits_and s.a (s.b ^^^ s.c)
      have x5 := bits_and s.b s.c
      have x6 : bits .xor .u32 (u (s.a &&& (s.b ^^^ s.c))) (u (s.b &&& s.c)) = u (maj s.a s.b s.c) := by rw [bits_xor, maj_eq]
      have x7 := wrap_add (S0 s.a) (maj s.a s.b s.c)
      have x8 := wrap_add t1 (S0 s.a + maj s.a s.b s.c)
      have x9 := wrap_add s.d t1
      go_wp2_with (first | (with_reducible refine (right_2 _ _).mono ?_; rintro e w' ⟨rfl, rfl⟩) | (with_reducible refine (right_13 _ _).mono ?_; rintro e w' ⟨rfl, rfl⟩) | (with_reducible refine (right_22 _ _).mono ?_; rintro e w' ⟨rfl, rfl⟩))
      clear x1 x2 x3 x4 x5 x6 x7 x8 x9
      go_roundw
      case rel =>
        refine ⟨k + 1, by omega, by go_num, hT.drewN, Sha.step s kv wv, Lib.hid ?_, ?_, rfl, rfl, rfl, ?_, rfl, rfl, rfl⟩
        · rw [hs.out, ← HK.out, ← HW.out]; rfl
        · rw [← HT1.out]; rfl
        · rw [← HT1.out]; rfl
      case measure => simp [intOf]; omega
    · have hs64 : s = rounds x (words b.data.toList 64) 64 := by
        have h := hs.out
        have e : k = 64 := by omega
        rw [e] at h
        exact h
      have HS := Lib.hid hs64
      clear hs64 hs
      have hd : decide ((k : Int) < 64) = false := decide_eq_false (by omega)
      have c0 : wr.cell? ⟨w.heap.size, 0, none⟩ = some (.int .u32 (u x.a)) := hT.st.cell 0 (by simp [S8.words])
      have a0 := wrap_add x.a s.a
      have c1 : wr.cell? ⟨w.heap.size, 1, none⟩ = some (.int .u32 (u x.b)) := hT.st.cell 1 (by simp [S8.words])
      have a1 := wrap_add x.b s.b
      have c2 : wr.cell? ⟨w.heap.size, 2, none⟩ = some (.int .u32 (u x.c)) := hT.st.cell 2 (by simp [S8.words])
      have a2 := wrap_add x.c s.c
      have c3 : wr.cell? ⟨w.heap.size, 3, none⟩ = some (.int .u32 (u x.d)) := hT.st.cell 3 (by simp [S8.words])
      have a3 := wrap_add x.d s.d
      have c4 : wr.cell? ⟨w.heap.size, 4, none⟩ = some (.int .u32 (u x.e)) := hT.st.cell 4 (by simp [S8.words])
      have a4 := wrap_add x.e s.e
      have c5 : wr.cell? ⟨w.heap.size, 5, none⟩ = some (.int .u32 (u x.f)) := hT.st.cell 5 (by simp [S8.words])
      have a5 := wrap_add x.f s.f
      have c6 : wr.cell? ⟨w.heap.size, 6, none⟩ = some (.int .u32 (u x.g)) := hT.st.cell 6 (by simp [S8.words])
      have a6 := wrap_add x.g s.g
      have c7 : wr.cell? ⟨w.heap.size, 7, none⟩ = some (.int .u32 (u x.h)) := hT.st.cell 7 (by simp [S8.words])
      have a7 := wrap_add x.h s.h
      go_wp2_with (refine wpList_store_row rfl 35 _ _ rfl (w.heap.size + 1 + 1) (x.add s).cells.toArray rfl rfl 35 _ hT.out (by rw [info35]; rfl) (by simp [Us, S8.cells]) (S8.all _) ?_)
      refine bodyPost_ret (v := .agg (turn x b.data.toList).cells.toArray) ((results_cell_row rfl _ _ (w.heap.size + 1 + 1) 35 (x.add s).cells.toArray (0, 0) _ rfl (setRow_heap _ _ _ _ _ _ hT.out) Try.underlying35 rfl (by rw [info35]; rfl)).trans ?_) rfl ⟨rfl, ?_⟩
      · rw [HS.out]; rfl
      · exact hT.below.trans ⟨rfl, rfl, rfl, by simp, fun j hj => setRow_other _ _ _ _ (by omega)⟩
end Go.Proofs.Ytjnbdikhajnciaa.Dig
