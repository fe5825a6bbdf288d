/- Walks of the digest: Sum. -/
import Derived.Test.YtjnbdikhajnciaaDk
namespace Go.Proofs.Ytjnbdikhajnciaa.Dig
open Go.RowKit Go.Proofs.Ytjnbdikhajnciaa.Sha Go.Proofs.Ytjnbdikhajnciaa.Ord

theorem HashAt.ten {w : World} {b : Nat} {m : Bool} {x : S8} {r : ByteArray} {n : Int} (h : HashAt w b m x r n) : w.cell? ⟨b, 1, none⟩ = some (.int .u32 (u x.a)) ∧ w.cell? ⟨b, 2, none⟩ = some (.int .u32 (u x.b)) ∧ w.cell? ⟨b, 3, none⟩ = some (.int .u32 (u x.c)) ∧ w.cell? ⟨b, 4, none⟩ = some (.int .u32 (u x.d)) ∧ w.cell? ⟨b, 5, none⟩ = some (.int .u32 (u x.e)) ∧ w.cell? ⟨b, 6, none⟩ = some (.int .u32 (u x.f)) ∧ w.cell? ⟨b, 7, none⟩ = some (.int .u32 (u x.g)) ∧ w.cell? ⟨b, 8, none⟩ = some (.int .u32 (u x.h)) ∧ w.cell? ⟨b, 9, none⟩ = some (.string r) ∧ w.cell? ⟨b, 10, none⟩ = some (.int .i64 n) :=
  ⟨h.cell 1, h.cell 2, h.cell 3, h.cell 4, h.cell 5, h.cell 6, h.cell 7, h.cell 8, h.cell 9, h.cell 10⟩
theorem HashAt.alloc {w : World} {b : Nat} {m : Bool} {x : S8} {r : ByteArray} {n : Int} (h : HashAt w b m x r n) (o : Obj) : HashAt (w.alloc o) b m x r n := (Below.heap_alloc w o b h.lt).trans h

def Zst : Obj := (.cells #[.int .u32 0, .int .u32 0, .int .u32 0, .int .u32 0, .int .u32 0, .int .u32 0, .int .u32 0, .int .u32 0] 35)
theorem zero8 {w2 : World} {g : Nat} (h : w2.heap[g]? = some Zst) : w2.cell? ⟨g, 0, none⟩ = some (.int .u32 0) ∧ w2.cell? ⟨g, 1, none⟩ = some (.int .u32 0) ∧ w2.cell? ⟨g, 2, none⟩ = some (.int .u32 0) ∧ w2.cell? ⟨g, 3, none⟩ = some (.int .u32 0) ∧ w2.cell? ⟨g, 4, none⟩ = some (.int .u32 0) ∧ w2.cell? ⟨g, 5, none⟩ = some (.int .u32 0) ∧ w2.cell? ⟨g, 6, none⟩ = some (.int .u32 0) ∧ w2.cell? ⟨g, 7, none⟩ = some (.int .u32 0) ∧ w2.frozen? ⟨g, 0, none⟩ = false ∧ w2.frozen? ⟨g, 1, none⟩ = false ∧ w2.frozen? ⟨g, 2, none⟩ = false ∧ w2.frozen? ⟨g, 3, none⟩ = false ∧ w2.frozen? ⟨g, 4, none⟩ = false ∧ w2.frozen? ⟨g, 5, none⟩ = false ∧ w2.frozen? ⟨g, 6, none⟩ = false ∧ w2.frozen? ⟨g, 7, none⟩ = false :=
  ⟨cell_of_row w2 g 0 _ _ _ h, cell_of_row w2 g 1 _ _ _ h, cell_of_row w2 g 2 _ _ _ h, cell_of_row w2 g 3 _ _ _ h, cell_of_row w2 g 4 _ _ _ h, cell_of_row w2 g 5 _ _ _ h, cell_of_row w2 g 6 _ _ _ h, cell_of_row w2 g 7 _ _ _ h, frozen_of_row w2 g 0 _ _ h, frozen_of_row w2 g 1 _ _ h, frozen_of_row w2 g 2 _ _ h, frozen_of_row w2 g 3 _ _ h, frozen_of_row w2 g 4 _ _ h, frozen_of_row w2 g 5 _ _ h, frozen_of_row w2 g 6 _ _ h, frozen_of_row w2 g 7 _ _ h⟩
theorem zst_new {w1 w2 : World} (hb : Below (w1.alloc (.cells #[.int .u32 0, .int .u32 0, .int .u32 0, .int .u32 0, .int .u32 0, .int .u32 0, .int .u32 0, .int .u32 0] 35)).heap.size (w1.alloc (.cells #[.int .u32 0, .int .u32 0, .int .u32 0, .int .u32 0, .int .u32 0, .int .u32 0, .int .u32 0, .int .u32 0] 35)) w2) : w2.heap[w1.heap.size]? = some Zst := (hb.block _ (by simp)).trans (heap_alloc_last w1 _)
theorem zst_newd {w1 w2 : World} (hb : Below (w1.alloc (.cells #[.int .u32 0, .int .u32 0, .int .u32 0, .int .u32 0, .int .u32 0, .int .u32 0, .int .u32 0, .int .u32 0] 35)).drew.heap.size (w1.alloc (.cells #[.int .u32 0, .int .u32 0, .int .u32 0, .int .u32 0, .int .u32 0, .int .u32 0, .int .u32 0, .int .u32 0] 35)).drew w2) : w2.heap[w1.heap.size]? = some Zst := (hb.block _ (by simp)).trans (heap_alloc_last w1 _)
theorem zst_old {w1 w2 : World} {g B : Nat} (h : w1.heap[g]? = some Zst) (hb : Below B w1 w2) (hlt : g < B) : w2.heap[g]? = some Zst := (hb.block _ hlt).trans h
theorem zst_lt {w1 : World} {g : Nat} (h : w1.heap[g]? = some Zst) : g < w1.heap.size := (Array.getElem?_eq_some_iff.1 h).1

theorem HashAt.other {w : World} {b : Nat} {m : Bool} {x : S8} {r : ByteArray} {n : Int} (h : HashAt w b m x r n) (a : Addr) (v : Value) (hne : b ≠ a.block) : HashAt (w.setCell a v) b m x r n := (heap_setCell_other w a b v hne).trans h
theorem HashAt.other8 {w : World} {b g : Nat} {m : Bool} {x : S8} {r : ByteArray} {n : Int} (h : HashAt w b m x r n) (hne : b ≠ g) (y : S8) : HashAt ((((((((w.setCell ⟨g, 0, none⟩ (.int .u32 (u y.a))).setCell ⟨g, 1, none⟩ (.int .u32 (u y.b))).setCell ⟨g, 2, none⟩ (.int .u32 (u y.c))).setCell ⟨g, 3, none⟩ (.int .u32 (u y.d))).setCell ⟨g, 4, none⟩ (.int .u32 (u y.e))).setCell ⟨g, 5, none⟩ (.int .u32 (u y.f))).setCell ⟨g, 6, none⟩ (.int .u32 (u y.g))).setCell ⟨g, 7, none⟩ (.int .u32 (u y.h))) b m x r n :=
  (((((((h.other _ _ hne).other _ _ hne).other _ _ hne).other _ _ hne).other _ _ hne).other _ _ hne).other _ _ hne).other _ _ hne
theorem st8 {w : World} {g : Nat} (h : w.heap[g]? = some Zst) (y : S8) : Row 35 ((((((((w.setCell ⟨g, 0, none⟩ (.int .u32 (u y.a))).setCell ⟨g, 1, none⟩ (.int .u32 (u y.b))).setCell ⟨g, 2, none⟩ (.int .u32 (u y.c))).setCell ⟨g, 3, none⟩ (.int .u32 (u y.d))).setCell ⟨g, 4, none⟩ (.int .u32 (u y.e))).setCell ⟨g, 5, none⟩ (.int .u32 (u y.f))).setCell ⟨g, 6, none⟩ (.int .u32 (u y.g))).setCell ⟨g, 7, none⟩ (.int .u32 (u y.h))) g (S8.words y) :=
  setAt (setAt (setAt (setAt (setAt (setAt (setAt (setAt (l := [.int .u32 0, .int .u32 0, .int .u32 0, .int .u32 0, .int .u32 0, .int .u32 0, .int .u32 0, .int .u32 0]) h 0 _) 1 _) 2 _) 3 _) 4 _) 5 _) 6 _) 7 _
theorem below8 {B : Nat} {w0 w : World} {g : Nat} (h : Below B w0 w) (hB : B ≤ g) (y : S8) : Below B w0 ((((((((w.setCell ⟨g, 0, none⟩ (.int .u32 (u y.a))).setCell ⟨g, 1, none⟩ (.int .u32 (u y.b))).setCell ⟨g, 2, none⟩ (.int .u32 (u y.c))).setCell ⟨g, 3, none⟩ (.int .u32 (u y.d))).setCell ⟨g, 4, none⟩ (.int .u32 (u y.e))).setCell ⟨g, 5, none⟩ (.int .u32 (u y.f))).setCell ⟨g, 6, none⟩ (.int .u32 (u y.g))).setCell ⟨g, 7, none⟩ (.int .u32 (u y.h))) :=
  (((((((h.setCell hB _).setCell hB _).setCell hB _).setCell hB _).setCell hB _).setCell hB _).setCell hB _).setCell hB _

set_option maxRecDepth 100000 in
set_option maxHeartbeats 8000000 in
theorem sum_at (b : Nat) (x : S8) (r : ByteArray) (n : Nat) (w : World) (h : HashAt w b true x r n) (hn : n ≤ 900000) (hr : r.size < 64) :
    Calls Try.prog 17 #[.pointer (some ⟨b, 0, none⟩)] w fun e w' => e = .returned (.string ⟨(run x ((r.size + (tail n).length) / 64) (r.data.toList ++ tail n)).bytes.toArray⟩) ∧ Below w.heap.size w w' := by
  have h0 : w.cell? ⟨b, 0, none⟩ = some (.bool true) := h.cell 0
  have hlt := h.lt
  obtain ⟨ts, hts⟩ : ∃ ts : ByteArray, ts = ⟨(tail n).toArray⟩ := ⟨_, rfl⟩
  have hsz : ts.size = (tail n).length := by rw [hts]; show (tail n).toArray.size = _; simp
  have hdt : ts.data.toList = tail n := by rw [hts]
  have hend := end_any n (by omega)
  rw [← hts] at hend
  have htl := tail_len n
  have hts2 : ts.size ≤ 72 := by omega
  have hrs : (r ++ ts).size ≤ 1000000 := by rw [ByteArray.size_append]; omega
  have hno : ¬ (9223372036854775807 < r.size + ts.size) := by omega
  have hno2 : r.size + ts.size ≤ 9223372036854775807 := by omega
  have HSZ := Lib.hid hsz
  have HDT := Lib.hid hdt
  have HTL := Lib.hid htl
  have HEND := Lib.hid hend
  clear hts hsz hdt htl hend
  obtain ⟨ten1, ten2, ten3, ten4, ten5, ten6, ten7, ten8, ten9, ten10⟩ := h.ten
  go_enter Try.func17, Try.ntmps17
  go_wp2_with (go_at_call 46; refine (is_at b true _ h0).mono ?_; rintro e w' ⟨rfl, rfl⟩)
  have hd : HashAt w.drew b true x r n := h
  have hne0 : b ≠ w.heap.size := Nat.ne_of_lt hlt
  have hltd : b < w.drew.heap.size := hlt
  have hda : ∀ o, HashAt (w.alloc o).drew b true x r n := fun o => HashAt.alloc h o
  go_region_held3 (fun w' => w'.cell? ⟨b, 1, none⟩ = some (.int .u32 (u x.a)) ∧ w'.cell? ⟨b, 2, none⟩ = some (.int .u32 (u x.b)) ∧ w'.cell? ⟨b, 3, none⟩ = some (.int .u32 (u x.c)) ∧ w'.cell? ⟨b, 4, none⟩ = some (.int .u32 (u x.d)) ∧ w'.cell? ⟨b, 5, none⟩ = some (.int .u32 (u x.e)) ∧ w'.cell? ⟨b, 6, none⟩ = some (.int .u32 (u x.f)) ∧ w'.cell? ⟨b, 7, none⟩ = some (.int .u32 (u x.g)) ∧ w'.cell? ⟨b, 8, none⟩ = some (.int .u32 (u x.h)) ∧ w'.cell? ⟨b, 9, none⟩ = some (.string r) ∧ w'.cell? ⟨b, 10, none⟩ = some (.int .i64 n)) (first | (with_reducible exact HashAt.ten hd) | (with_reducible exact HashAt.ten (hda _)) | (with_reducible exact HashAt.ten ‹HashAt _ b true x r n›) | (with_reducible exact HashAt.ten (HashAt.alloc ‹HashAt _ b true x r n› _)) | (with_reducible exact HashAt.ten (HashAt.other8 ‹HashAt _ b true x r n› (by assumption) _))) (first | (go_at_call 48; refine (HEND.out _).mono ?_; rintro e w1 ⟨rfl, hb1⟩; have hZ1 : HashAt w1 b true x r n := (by first | with_reducible exact HashAt.below hd hb1 hltd | with_reducible exact HashAt.below (hda _) hb1 (by have := hlt; simp; omega)); (first | (with_reducible have hA1 := zst_newd hb1) | skip)) | (go_at_call 47; refine (blocks_lit x _ hrs _).mono ?_; rintro e w2 ⟨⟨y, r', rfl, hy, hr'⟩, hb2⟩; have hne1 : b ≠ w1.heap.size := Nat.ne_of_lt hZ1.lt; have hZ2 : HashAt w2 b true x r n := (by first | with_reducible exact hZ1.below hb2 hZ1.lt | with_reducible exact (hZ1.alloc _).below hb2 (by have := hZ1.lt; simp; omega)); (first | (with_reducible have hz9 := zst_new hb2; obtain ⟨q0, q1, q2, q3, q4, q5, q6, q7, p0, p1, p2, p3, p4, p5, p6, p7⟩ := zero8 hz9; clear hz9) | (with_reducible have hz9 := zst_old hA1 hb2 (zst_lt hA1); obtain ⟨q0, q1, q2, q3, q4, q5, q6, q7, p0, p1, p2, p3, p4, p5, p6, p7⟩ := zero8 hz9; clear hz9) | skip)))
  · skip
    have hF : Row 35 (w2.alloc (.cells #[.int .u32 (u y.a), .int .u32 (u y.b), .int .u32 (u y.c), .int .u32 (u y.d), .int .u32 (u y.e), .int .u32 (u y.f), .int .u32 (u y.g), .int .u32 (u y.h)] 35)) w2.heap.size (S8.words y) := Row.new _ w2 (S8.words y)
    have hBF : Below w.heap.size w (w2.alloc (.cells #[.int .u32 (u y.a), .int .u32 (u y.b), .int .u32 (u y.c), .int .u32 (u y.d), .int .u32 (u y.e), .int .u32 (u y.f), .int .u32 (u y.g), .int .u32 (u y.h)] 35)) := (((below_drewN' (n := 1) (Below.refl w.heap.size w)).trans (hb1.trans (hb2.mono (by have := hb1.size; simpa using this)))).alloc (by have := hb1.size; have := hb2.size; simp at *; omega) _)
    generalize (w2.alloc (.cells #[.int .u32 (u y.a), .int .u32 (u y.b), .int .u32 (u y.c), .int .u32 (u y.d), .int .u32 (u y.e), .int .u32 (u y.f), .int .u32 (u y.g), .int .u32 (u y.h)] 35)) = WF at *
    generalize w2.heap.size = G at hF ⊢
    have hGs : w.heap.size ≤ WF.heap.size := hBF.size
    clear ten1 ten2 ten3 ten4 ten5 ten6 ten7 ten8 ten9 ten10
    go_wp2_with (first
      | (refine wpList_load_row rfl 35 _ rfl G rfl 35 (Us (S8.words y)).toArray (0, 0) _ hF Try.underlying35 rfl (by rw [info35]; rfl) ?_)
      | (go_at_call 49; refine (bytes_any y _).mono ?_; rintro e w4 ⟨rfl, hb4⟩))
    go_ret
    refine ⟨?_, hBF.trans (hb4.mono hGs)⟩
    have e1 : y = run x ((r.size + (tail n).length) / 64) (r.data.toList ++ tail n) := by
      rw [← HSZ.out, ← HDT.out, ← append_data, ← ByteArray.size_append]; exact hy.out
    rw [← e1]
    rfl
  · clear q0 q1 q2 q3 q4 q5 q6 q7 p0 p1 p2 p3 p4 p5 p6 p7
    have hF : Row 35 ((((((((w2.setCell ⟨w1.heap.size, 0, none⟩ (.int .u32 (u y.a))).setCell ⟨w1.heap.size, 1, none⟩ (.int .u32 (u y.b))).setCell ⟨w1.heap.size, 2, none⟩ (.int .u32 (u y.c))).setCell ⟨w1.heap.size, 3, none⟩ (.int .u32 (u y.d))).setCell ⟨w1.heap.size, 4, none⟩ (.int .u32 (u y.e))).setCell ⟨w1.heap.size, 5, none⟩ (.int .u32 (u y.f))).setCell ⟨w1.heap.size, 6, none⟩ (.int .u32 (u y.g))).setCell ⟨w1.heap.size, 7, none⟩ (.int .u32 (u y.h))) w1.heap.size (S8.words y) := st8 (zst_new hb2) y
    have hBF : Below w.heap.size w ((((((((w2.setCell ⟨w1.heap.size, 0, none⟩ (.int .u32 (u y.a))).setCell ⟨w1.heap.size, 1, none⟩ (.int .u32 (u y.b))).setCell ⟨w1.heap.size, 2, none⟩ (.int .u32 (u y.c))).setCell ⟨w1.heap.size, 3, none⟩ (.int .u32 (u y.d))).setCell ⟨w1.heap.size, 4, none⟩ (.int .u32 (u y.e))).setCell ⟨w1.heap.size, 5, none⟩ (.int .u32 (u y.f))).setCell ⟨w1.heap.size, 6, none⟩ (.int .u32 (u y.g))).setCell ⟨w1.heap.size, 7, none⟩ (.int .u32 (u y.h))) := below8 (((below_drewN' (n := 1) (Below.refl w.heap.size w)).trans hb1).alloc (by have := hb1.size; simp at *; omega) _ |>.trans (hb2.mono (by have := hb1.size; simp at *; omega))) (by have := hb1.size; simp at *; omega) y
    generalize ((((((((w2.setCell ⟨w1.heap.size, 0, none⟩ (.int .u32 (u y.a))).setCell ⟨w1.heap.size, 1, none⟩ (.int .u32 (u y.b))).setCell ⟨w1.heap.size, 2, none⟩ (.int .u32 (u y.c))).setCell ⟨w1.heap.size, 3, none⟩ (.int .u32 (u y.d))).setCell ⟨w1.heap.size, 4, none⟩ (.int .u32 (u y.e))).setCell ⟨w1.heap.size, 5, none⟩ (.int .u32 (u y.f))).setCell ⟨w1.heap.size, 6, none⟩ (.int .u32 (u y.g))).setCell ⟨w1.heap.size, 7, none⟩ (.int .u32 (u y.h))) = WF at *
    generalize w1.heap.size = G at hF ⊢
    have hGs : w.heap.size ≤ WF.heap.size := hBF.size
    clear ten1 ten2 ten3 ten4 ten5 ten6 ten7 ten8 ten9 ten10
    go_wp2_with (first
      | (refine wpList_load_row rfl 35 _ rfl G rfl 35 (Us (S8.words y)).toArray (0, 0) _ hF Try.underlying35 rfl (by rw [info35]; rfl) ?_)
      | (go_at_call 49; refine (bytes_any y _).mono ?_; rintro e w4 ⟨rfl, hb4⟩))
    go_ret
    refine ⟨?_, hBF.trans (hb4.mono hGs)⟩
    have e1 : y = run x ((r.size + (tail n).length) / 64) (r.data.toList ++ tail n) := by
      rw [← HSZ.out, ← HDT.out, ← append_data, ← ByteArray.size_append]; exact hy.out
    rw [← e1]
    rfl
  · clear q0 q1 q2 q3 q4 q5 q6 q7 p0 p1 p2 p3 p4 p5 p6 p7
    have hF : Row 35 ((((((((w2.setCell ⟨w.heap.size, 0, none⟩ (.int .u32 (u y.a))).setCell ⟨w.heap.size, 1, none⟩ (.int .u32 (u y.b))).setCell ⟨w.heap.size, 2, none⟩ (.int .u32 (u y.c))).setCell ⟨w.heap.size, 3, none⟩ (.int .u32 (u y.d))).setCell ⟨w.heap.size, 4, none⟩ (.int .u32 (u y.e))).setCell ⟨w.heap.size, 5, none⟩ (.int .u32 (u y.f))).setCell ⟨w.heap.size, 6, none⟩ (.int .u32 (u y.g))).setCell ⟨w.heap.size, 7, none⟩ (.int .u32 (u y.h))) w.heap.size (S8.words y) := st8 (zst_old hA1 hb2 (zst_lt hA1)) y
    have hBF : Below w.heap.size w ((((((((w2.setCell ⟨w.heap.size, 0, none⟩ (.int .u32 (u y.a))).setCell ⟨w.heap.size, 1, none⟩ (.int .u32 (u y.b))).setCell ⟨w.heap.size, 2, none⟩ (.int .u32 (u y.c))).setCell ⟨w.heap.size, 3, none⟩ (.int .u32 (u y.d))).setCell ⟨w.heap.size, 4, none⟩ (.int .u32 (u y.e))).setCell ⟨w.heap.size, 5, none⟩ (.int .u32 (u y.f))).setCell ⟨w.heap.size, 6, none⟩ (.int .u32 (u y.g))).setCell ⟨w.heap.size, 7, none⟩ (.int .u32 (u y.h))) := below8 ((below_drewN' (n := 1) ((Below.refl w.heap.size w).alloc (Nat.le_refl _) _)).trans ((hb1.mono (by simp)).trans (hb2.mono (by have := hb1.size; simp at *; omega)))) (Nat.le_refl _) y
    generalize ((((((((w2.setCell ⟨w.heap.size, 0, none⟩ (.int .u32 (u y.a))).setCell ⟨w.heap.size, 1, none⟩ (.int .u32 (u y.b))).setCell ⟨w.heap.size, 2, none⟩ (.int .u32 (u y.c))).setCell ⟨w.heap.size, 3, none⟩ (.int .u32 (u y.d))).setCell ⟨w.heap.size, 4, none⟩ (.int .u32 (u y.e))).setCell ⟨w.heap.size, 5, none⟩ (.int .u32 (u y.f))).setCell ⟨w.heap.size, 6, none⟩ (.int .u32 (u y.g))).setCell ⟨w.heap.size, 7, none⟩ (.int .u32 (u y.h))) = WF at *
    generalize w.heap.size = G at hF ⊢
    have hGs : w.heap.size ≤ WF.heap.size := hBF.size
    clear ten1 ten2 ten3 ten4 ten5 ten6 ten7 ten8 ten9 ten10
    go_wp2_with (first
      | (refine wpList_load_row rfl 35 _ rfl G rfl 35 (Us (S8.words y)).toArray (0, 0) _ hF Try.underlying35 rfl (by rw [info35]; rfl) ?_)
      | (go_at_call 49; refine (bytes_any y _).mono ?_; rintro e w4 ⟨rfl, hb4⟩))
    go_ret
    refine ⟨?_, hBF.trans (hb4.mono hGs)⟩
    have e1 : y = run x ((r.size + (tail n).length) / 64) (r.data.toList ++ tail n) := by
      rw [← HSZ.out, ← HDT.out, ← append_data, ← ByteArray.size_append]; exact hy.out
    rw [← e1]
    rfl
end Go.Proofs.Ytjnbdikhajnciaa.Dig
