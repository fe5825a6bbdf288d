/- Walks of the digest: Put, Sum, Len. -/
import Derived.Test.YtjnbdikhajnciaaDj
import Derived.Deep.RegionWith
import Derived.Deep.RegionHeld3
namespace Go.Proofs.Ytjnbdikhajnciaa.Dig
open Go.RowKit Go.Proofs.Ytjnbdikhajnciaa.Sha Go.Proofs.Ytjnbdikhajnciaa.Ord

/-- A hash that is not made refuses. -/
theorem put_nil (s : ByteArray) (w : World) :
    Calls Try.prog 16 #[.pointer none, .string s] w fun e w' => e = .returned (.int .i64 1) ∧ w = w' := by
  go_enter Try.func16, Try.ntmps16
  go_wp2_with (go_at_call 46; refine (is_nil _).mono ?_; rintro e w' ⟨rfl, rfl⟩)
  go_ret
  exact ⟨rfl, rfl⟩
theorem put_not (b : Nat) (s : ByteArray) (w : World) (h : w.cell? ⟨b, 0, none⟩ = some (.bool false)) :
    Calls Try.prog 16 #[.pointer (some ⟨b, 0, none⟩), .string s] w fun e w' => e = .returned (.int .i64 1) ∧ w = w' := by
  go_enter Try.func16, Try.ntmps16
  go_wp2_with (go_at_call 46; refine (is_at b false _ h).mono ?_; rintro e w' ⟨rfl, rfl⟩)
  go_ret
  exact ⟨rfl, rfl⟩
theorem sum_nil (w : World) :
    Calls Try.prog 17 #[.pointer none] w fun e w' => e = .returned (.string ⟨#[]⟩) ∧ w = w' := by
  go_enter Try.func17, Try.ntmps17
  go_wp2_with (go_at_call 46; refine (is_nil _).mono ?_; rintro e w' ⟨rfl, rfl⟩)
  go_ret
  exact ⟨rfl, rfl⟩
theorem sum_not (b : Nat) (w : World) (h : w.cell? ⟨b, 0, none⟩ = some (.bool false)) :
    Calls Try.prog 17 #[.pointer (some ⟨b, 0, none⟩)] w fun e w' => e = .returned (.string ⟨#[]⟩) ∧ w = w' := by
  go_enter Try.func17, Try.ntmps17
  go_wp2_with (go_at_call 46; refine (is_at b false _ h).mono ?_; rintro e w' ⟨rfl, rfl⟩)
  go_ret
  exact ⟨rfl, rfl⟩
theorem len_nil (w : World) :
    Calls Try.prog 18 #[.pointer none] w fun e w' => e = .returned (.int .i64 0) ∧ w = w' := by
  go_enter Try.func18, Try.ntmps18
  go_wp2_with (go_at_call 46; refine (is_nil _).mono ?_; rintro e w' ⟨rfl, rfl⟩)
  go_ret
  exact ⟨rfl, rfl⟩
theorem len_not (b : Nat) (w : World) (h : w.cell? ⟨b, 0, none⟩ = some (.bool false)) :
    Calls Try.prog 18 #[.pointer (some ⟨b, 0, none⟩)] w fun e w' => e = .returned (.int .i64 0) ∧ w = w' := by
  go_enter Try.func18, Try.ntmps18
  go_wp2_with (go_at_call 46; refine (is_at b false _ h).mono ?_; rintro e w' ⟨rfl, rfl⟩)
  go_ret
  exact ⟨rfl, rfl⟩
theorem len_at (b : Nat) (x : S8) (r : ByteArray) (n : Int) (w : World) (h : HashAt w b true x r n) :
    Calls Try.prog 18 #[.pointer (some ⟨b, 0, none⟩)] w fun e w' => e = .returned (.int .i64 n) ∧ w = w' := by
  have h10 : w.cell? ⟨b, 10, none⟩ = some (.int .i64 n) := h.cell 10
  have h0 : w.cell? ⟨b, 0, none⟩ = some (.bool true) := h.cell 0
  go_enter Try.func18, Try.ntmps18
  go_wp2_with (go_at_call 46; refine (is_at b true _ h0).mono ?_; rintro e w' ⟨rfl, rfl⟩)
  go_ret
  exact ⟨rfl, rfl⟩

/-- 'blocks', its state written out. -/
theorem blocks_lit (x : S8) (s : ByteArray) (hs : s.size ≤ 1000000) (w : World) :
    Calls Try.prog 47 #[.agg #[.int .u32 (u x.a), .int .u32 (u x.b), .int .u32 (u x.c), .int .u32 (u x.d), .int .u32 (u x.e), .int .u32 (u x.f), .int .u32 (u x.g), .int .u32 (u x.h)], .string s] w fun e w' =>
      (∃ (y : S8) (r : ByteArray), e = .returned (.tuple #[.agg #[.int .u32 (u y.a), .int .u32 (u y.b), .int .u32 (u y.c), .int .u32 (u y.d), .int .u32 (u y.e), .int .u32 (u y.f), .int .u32 (u y.g), .int .u32 (u y.h)], .string r]) ∧ Hid (y = run x (s.size / 64) s.data.toList) ∧ Hid (r.data.toList = s.data.toList.drop (64 * (s.size / 64)))) ∧ Below w.heap.size w w' :=
  (blocks_any x s hs w).mono fun _ _ ⟨⟨r, he, hr⟩, hb⟩ => ⟨⟨_, r, he, Lib.hid rfl, hr⟩, hb⟩

theorem setAt {w : World} {b : Nat} {l : List Value} {t : TypeId} (h : w.heap[b]? = some (.cells l.toArray t (0, 0))) (i : Nat) (v : Value) : (w.setCell ⟨b, i, none⟩ v).heap[b]? = some (.cells (l.set i v).toArray t (0, 0)) := by
  rw [heap_setCell_same w b i _ _ v h]; simp
theorem put9 {w : World} {b : Nat} {m : Bool} {x : S8} {r : ByteArray} {n : Int} (h : HashAt w b m x r n) (y : S8) (r' : ByteArray) : HashAt (((((((((w.setCell ⟨b, 1, none⟩ (.int .u32 (u y.a))).setCell ⟨b, 2, none⟩ (.int .u32 (u y.b))).setCell ⟨b, 3, none⟩ (.int .u32 (u y.c))).setCell ⟨b, 4, none⟩ (.int .u32 (u y.d))).setCell ⟨b, 5, none⟩ (.int .u32 (u y.e))).setCell ⟨b, 6, none⟩ (.int .u32 (u y.f))).setCell ⟨b, 7, none⟩ (.int .u32 (u y.g))).setCell ⟨b, 8, none⟩ (.int .u32 (u y.h))).setCell ⟨b, 9, none⟩ (.string r')) b m y r' n := by
  have h1 := setAt h 1 (.int .u32 (u y.a))
  have h2 := setAt h1 2 (.int .u32 (u y.b))
  have h3 := setAt h2 3 (.int .u32 (u y.c))
  have h4 := setAt h3 4 (.int .u32 (u y.d))
  have h5 := setAt h4 5 (.int .u32 (u y.e))
  have h6 := setAt h5 6 (.int .u32 (u y.f))
  have h7 := setAt h6 7 (.int .u32 (u y.g))
  have h8 := setAt h7 8 (.int .u32 (u y.h))
  have h9 := setAt h8 9 (.string r')
  have e : ((((((((((hcells m x r n).set 1 (.int .u32 (u y.a))).set 2 (.int .u32 (u y.b))).set 3 (.int .u32 (u y.c))).set 4 (.int .u32 (u y.d))).set 5 (.int .u32 (u y.e))).set 6 (.int .u32 (u y.f))).set 7 (.int .u32 (u y.g))).set 8 (.int .u32 (u y.h))).set 9 (.string r')) = hcells m y r' n := rfl
  rw [e] at h9
  exact h9
theorem grown9 (w : World) (b : Nat) (y : S8) (r' : ByteArray) : w.grownBy (((((((((w.setCell ⟨b, 1, none⟩ (.int .u32 (u y.a))).setCell ⟨b, 2, none⟩ (.int .u32 (u y.b))).setCell ⟨b, 3, none⟩ (.int .u32 (u y.c))).setCell ⟨b, 4, none⟩ (.int .u32 (u y.d))).setCell ⟨b, 5, none⟩ (.int .u32 (u y.e))).setCell ⟨b, 6, none⟩ (.int .u32 (u y.f))).setCell ⟨b, 7, none⟩ (.int .u32 (u y.g))).setCell ⟨b, 8, none⟩ (.int .u32 (u y.h))).setCell ⟨b, 9, none⟩ (.string r')) (some b) :=
  grown_trans (grown_trans (grown_trans (grown_trans (grown_trans (grown_trans (grown_trans (grown_trans (grown_set _ ⟨b, 1, none⟩ _) (grown_set _ ⟨b, 2, none⟩ _)) (grown_set _ ⟨b, 3, none⟩ _)) (grown_set _ ⟨b, 4, none⟩ _)) (grown_set _ ⟨b, 5, none⟩ _)) (grown_set _ ⟨b, 6, none⟩ _)) (grown_set _ ⟨b, 7, none⟩ _)) (grown_set _ ⟨b, 8, none⟩ _)) (grown_set _ ⟨b, 9, none⟩ _)
theorem append_data (r s : ByteArray) : (r ++ s).data.toList = r.data.toList ++ s.data.toList := by simp

set_option maxRecDepth 100000 in
set_option maxHeartbeats 8000000 in
theorem put_at (b : Nat) (x : S8) (r s : ByteArray) (n : Nat) (w : World) (h : HashAt w b true x r n) (hn : n ≤ 900000) (hs : s.size ≤ 900000) (hr : r.size < 64) :
    Calls Try.prog 16 #[.pointer (some ⟨b, 0, none⟩), .string s] w fun e w' => e = .returned (.int .i64 0) ∧
      (∃ r' : ByteArray, HashAt w' b true (run x ((r.size + s.size) / 64) (r.data.toList ++ s.data.toList)) r' ((n + s.size : Nat) : Int) ∧ r'.data.toList = (r.data.toList ++ s.data.toList).drop (64 * ((r.size + s.size) / 64))) ∧ w.grownBy w' (some b) := by
  have h10 : w.cell? ⟨b, 10, none⟩ = some (.int .i64 n) := h.cell 10
  have h0 : w.cell? ⟨b, 0, none⟩ = some (.bool true) := h.cell 0
  have hf := h.free 10
  go_enter Try.func16, Try.ntmps16
  go_wp2_with (go_at_call 46; refine (is_at b true _ h0).mono ?_; rintro e w' ⟨rfl, rfl⟩)
  have hW : HashAt (w.setCell ⟨b, 10, none⟩ (.int .i64 ((n : Int) + (s.size : Int)))) b true x r ((n : Int) + (s.size : Int)) := h.set 10 _
  have hG : w.grownBy (w.setCell ⟨b, 10, none⟩ (.int .i64 ((n : Int) + (s.size : Int)))) (some b) := grown_set w ⟨b, 10, none⟩ _
  generalize w.setCell ⟨b, 10, none⟩ (.int .i64 ((n : Int) + (s.size : Int))) = w1 at *
  clear h10 h0 hf
  have c1 : w1.cell? ⟨b, 1, none⟩ = some (.int .u32 (u x.a)) := hW.cell 1
  have c2 : w1.cell? ⟨b, 2, none⟩ = some (.int .u32 (u x.b)) := hW.cell 2
  have c3 : w1.cell? ⟨b, 3, none⟩ = some (.int .u32 (u x.c)) := hW.cell 3
  have c4 : w1.cell? ⟨b, 4, none⟩ = some (.int .u32 (u x.d)) := hW.cell 4
  have c5 : w1.cell? ⟨b, 5, none⟩ = some (.int .u32 (u x.e)) := hW.cell 5
  have c6 : w1.cell? ⟨b, 6, none⟩ = some (.int .u32 (u x.f)) := hW.cell 6
  have c7 : w1.cell? ⟨b, 7, none⟩ = some (.int .u32 (u x.g)) := hW.cell 7
  have c8 : w1.cell? ⟨b, 8, none⟩ = some (.int .u32 (u x.h)) := hW.cell 8
  have c9 : w1.cell? ⟨b, 9, none⟩ = some (.string r) := hW.cell 9
  have hlt := hW.lt
  have hrs : (r ++ s).size ≤ 1000000 := by rw [ByteArray.size_append]; omega
  go_region_with (first | (go_at_call 47; refine (blocks_lit x (r ++ s) hrs _).mono ?_; rintro e w' ⟨⟨y, r', rfl, hy, hr'⟩, hbw⟩; have hZ : HashAt w' b true x r ((n : Int) + (s.size : Int)) := HashAt.below (w := w1.drew) hW hbw hlt; have d1 : w'.cell? ⟨b, 1, none⟩ = some (.int .u32 (u x.a)) := hZ.cell 1; have f1 := hZ.free 1; have d2 : w'.cell? ⟨b, 2, none⟩ = some (.int .u32 (u x.b)) := hZ.cell 2; have f2 := hZ.free 2; have d3 : w'.cell? ⟨b, 3, none⟩ = some (.int .u32 (u x.c)) := hZ.cell 3; have f3 := hZ.free 3; have d4 : w'.cell? ⟨b, 4, none⟩ = some (.int .u32 (u x.d)) := hZ.cell 4; have f4 := hZ.free 4; have d5 : w'.cell? ⟨b, 5, none⟩ = some (.int .u32 (u x.e)) := hZ.cell 5; have f5 := hZ.free 5; have d6 : w'.cell? ⟨b, 6, none⟩ = some (.int .u32 (u x.f)) := hZ.cell 6; have f6 := hZ.free 6; have d7 : w'.cell? ⟨b, 7, none⟩ = some (.int .u32 (u x.g)) := hZ.cell 7; have f7 := hZ.free 7; have d8 : w'.cell? ⟨b, 8, none⟩ = some (.int .u32 (u x.h)) := hZ.cell 8; have f8 := hZ.free 8; have d9 : w'.cell? ⟨b, 9, none⟩ = some (.string r) := hZ.cell 9; have f9 := hZ.free 9))
  all_goals
    clear d1 f1 d2 f2 d3 f3 d4 f4 d5 f5 d6 f6 d7 f7 d8 f8 d9 f9 c1 c2 c3 c4 c5 c6 c7 c8 c9
    go_wp2_with fail
    go_ret
    refine ⟨rfl, ⟨r', ?_, ?_⟩, ?_⟩
    · have hq := hy.out
      rw [append_data, ByteArray.size_append] at hq
      rw [← hq]
      exact put9 hZ y r'
    · have hq := hr'.out
      rw [append_data, ByteArray.size_append] at hq
      exact hq
    · exact grown_trans hG (grown_trans (grown_below (w := w1) (w' := w') ((below_drewN' (n := 1) (Below.refl _ _)).trans hbw) _) (grown9 w' b y r'))
end Go.Proofs.Ytjnbdikhajnciaa.Dig
