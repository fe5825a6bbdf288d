/- The drum: a sector's bytes; a sector that begins with a text; a new drum. -/
import Derived.Test.YtjnbdikhajnciaaEc
import Derived.Lib.BufferWrite
namespace Go.Proofs.Ytjnbdikhajnciaa.Drum
open Go.RowKit Go.Proofs.Ytjnbdikhajnciaa.Ord Go.Proofs.YtjnbdikhajnciaaW.PrintWords Go.Proofs.Ytjnbdikhajnciaa.Base

theorem nums_ints (l : List UInt8) : nums .u8 (ints l) = Lib.byteCells l := by simp [nums, ints, Lib.byteCells]
theorem rep_cells (n : Nat) : Lib.byteCells (List.replicate n 0) = List.replicate n (.int .u8 0) := by simp [Lib.byteCells]
theorem info_u8 : (Try.prog.info? 5).map (·.size) = some 1 := by kernel_rfl
theorem info_sector : (Try.prog.info? 84).map (·.size) = some 64 := by kernel_rfl

/-- copy(dst, s) of any text. -/
theorem run_copy_text {P : Program} (w : World) (dT sT ty elem : TypeId) (g dLen dCap : Nat) (s : ByteArray) (cur : Array Value) (t : TypeId)
    (hu : P.underlying dT = some (.slice elem)) (hs : (P.info? elem).map (·.size) = some 1) (hg : w.heap[g]? = some (.cells cur t (0, 0))) (hfit : dLen ≤ cur.size) :
    (Builtin.copy_ #[dT, sT] ty #[.slice (some ⟨g, 0, none⟩) dLen dCap, .string s]).run P w =
      .ok (goInt ((min s.size dLen : Nat) : Int)) (w.setRow g (Lib.byteCells (s.data.toList.take dLen) ++ cur.toList.drop (min s.size dLen)).toArray) := by
  have hsz : s.data.toList.length = s.size := by simp
  have hlen : (Lib.byteCells (s.data.toList.take dLen)).length = min s.size dLen := by simp [Lib.byteCells, Nat.min_comm]
  have hst := run_storeCells_at P g 0 t (Lib.byteCells (s.data.toList.take dLen)) 0 cur w hg (by rw [hlen]; omega) (Lib.byteCells_one _)
  have htk : List.take (min s.size dLen) (List.map (fun b : UInt8 => Value.int IntKind.u8 (b.toNat : Int)) s.data.toList) = Lib.byteCells (s.data.toList.take dLen) := by
    rw [← List.map_take]
    unfold Lib.byteCells
    congr 1
    rw [List.take_eq_take_iff]; omega
  rw [hlen] at hst
  simp only [Nat.add_zero] at hst
  cases hq : P.info? elem with
  | none => simp [hq] at hs
  | some i =>
    have hm : Nat.min s.size dLen = min s.size dLen := rfl
    simp [Builtin.copy_, run_underlying hu, Builtin.lenOf, Builtin.firstCells, sizeOf, typeInfo, hq, hm]
    rw [htk, hst]
    simp [Result.andThen]

/-- A sector that begins with a text. -/
def sec (s : ByteArray) : List UInt8 := s.data.toList.take 64 ++ List.replicate (64 - s.size) 0
theorem sec_len (s : ByteArray) : (sec s).length = 64 := by simp [sec]; omega

set_option maxRecDepth 100000 in
set_option maxHeartbeats 8000000 in
theorem sector_any (s : ByteArray) (hs : s.size ≤ 1000000) (w : World) :
    Calls Try.prog 25 #[.string s] w fun e w' => e = .returned (.string ⟨(sec s).toArray⟩) ∧ NewMem w w' := by
  have hmk := make_bytes 64 (by omega) w
  obtain ⟨w1, hr, hown, hnew⟩ := hmk
  have hr' : (Instr.makeSlice 87 (.int .i64 64) (.int .i64 64)).run Try.prog w = .ok (.slice (some ⟨w.heap.size, 0, none⟩) 64 64) w1 := hr
  have HOWN := Lib.hid hown
  have HNEW := Lib.hid hnew
  clear hr hown hnew
  obtain ⟨cur, hg, hcur⟩ : ∃ cur : Array Value, w1.heap[w.heap.size]? = some (.cells cur 5 (0, 0)) ∧ cur.toList = List.replicate 64 (.int .u8 0) := by
    rcases HOWN.out.2 with ⟨_, h0⟩ | ⟨g, cap, cur, hv, _, hg, _, _, hsz, htk⟩
    · simp at h0
    · injection hv with h1 h2 h3
      injection h1 with h1
      injection h1 with h1
      subst h1
      subst h3
      refine ⟨cur, hg, ?_⟩
      rw [← rep_cells, ← nums_ints, ← htk, List.take_of_length_le]
      simp at hsz ⊢; omega
  have hcs : cur.size = 64 := by have := congrArg List.length hcur; simpa [Lib.byteCells] using this
  obtain ⟨w2, hw2⟩ : ∃ w2, w2 = w1.setRow w.heap.size (Lib.byteCells (sec s)).toArray := ⟨_, rfl⟩
  have hcp : (Builtin.copy_ #[87, 9] 3 #[.slice (some ⟨w.heap.size, 0, none⟩) 64 64, .string s]).run Try.prog w1 = .ok (goInt ((min s.size 64 : Nat) : Int)) w2 := by
    rw [run_copy_text w1 87 9 3 5 w.heap.size 64 64 s cur 5 Try.underlying87 info_u8 hg (by omega), hw2]
    rw [hcur, List.drop_replicate, show 64 - min s.size 64 = 64 - s.size by omega]
    unfold sec Lib.byteCells
    rw [List.map_append, List.map_replicate]; rfl
  have hg2 : w2.heap[w.heap.size]? = some (.cells (Lib.byteCells (sec s)).toArray 5 (0, 0)) := by rw [hw2]; exact setRow_heap _ _ _ _ _ _ hg
  have hown2 : w2.ownsRow 0 5 1 (.slice (some ⟨w.heap.size, 0, none⟩) 64 64) 64 (nums .u8 (ints (sec s))) :=
    ⟨by simp [nums, ints, sec_len], .inr ⟨_, 64, _, rfl, Nat.zero_le _, hg2, Nat.le_refl _, by decide, by simp [Lib.byteCells, sec_len], by rw [nums_ints]; exact List.take_of_length_le (by simp [Lib.byteCells, sec_len])⟩⟩
  have hcv := own_string (P := Try.prog) (src := 87) (dst := 9) (e := 5) Try.underlying87 Try.underlying5 Try.underlying9 hown2
  rw [str_ints] at hcv
  have hnew2 : NewMem w w2 := Below.trans HNEW.out ⟨by rw [hw2]; rfl, by rw [hw2]; rfl, by rw [hw2]; rfl, by rw [hw2]; simp, fun k hk => by rw [hw2]; exact setRow_other _ _ _ _ (by omega)⟩
  have HN2 := Lib.hid hnew2
  obtain ⟨m, hm⟩ : ∃ m : Int, ((min s.size 64 : Nat) : Int) = m := ⟨_, rfl⟩
  rw [hm] at hcp
  generalize (⟨(sec s).toArray⟩ : ByteArray) = t at *
  clear hg2 hown2 hnew2 hg hcur hcs hw2 hm HOWN HNEW
  go_enter Try.func25, Try.ntmps25
  go_wp2
  go_ret
  exact ⟨rfl, HN2.out⟩
set_option maxRecDepth 100000 in
set_option maxHeartbeats 8000000 in
theorem text_any (s : List UInt8) (hs : s.length = 64) (w : World) :
    Calls Try.prog 57 #[.agg (secCells s).toArray] w fun e w' => e = .returned (.string ⟨s.toArray⟩) ∧ NewMem w w' := by
  have hown : (w.alloc (.cells (secCells s).toArray 84)).ownsRow 0 84 1 (.slice (some ⟨w.heap.size, 0, none⟩) 64 64) 64 (nums .u8 (ints s)) :=
    ⟨by simp [nums, ints, hs], .inr ⟨_, 64, _, rfl, Nat.zero_le _, heap_alloc_last w _, Nat.le_refl _, by decide, by simp [secCells_len, hs], List.take_of_length_le (by simp [secCells_len, hs])⟩⟩
  have hcv := own_string (P := Try.prog) (src := 87) (dst := 9) (e := 5) Try.underlying87 Try.underlying5 Try.underlying9 hown
  rw [str_ints] at hcv
  have HN := Lib.hid (NewMem.alloc w (.cells (secCells s).toArray 84))
  generalize (⟨s.toArray⟩ : ByteArray) = t at *
  clear hown
  go_enter Try.func57, Try.ntmps57
  go_wp2
  go_ret
  exact ⟨rfl, HN.out⟩
end Go.Proofs.Ytjnbdikhajnciaa.Drum
