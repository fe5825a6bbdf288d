/- The law's examples: lives. -/
import Derived.Test.YtjnbdikhajnciaaEm
namespace Go.Proofs.Ytjnbdikhajnciaa.Drum
open Go.RowKit Go.Proofs.Ytjnbdikhajnciaa.Ord Go.Proofs.YtjnbdikhajnciaaW.PrintWords Go.Proofs.Ytjnbdikhajnciaa.Base
set_option linter.unusedVariables false
set_option linter.unusedSimpArgs false

theorem write_plain (D : DS) (i : Int) (s : List UInt8) (ha : D.armed = false) (hd : D.down = false) (hs : s.length = 64) (h0 : 0 ≤ i) (h1 : i < (D.sure.length : Int)) :
    D.write i s = (0, { D with left := IntKind.i64.wrap (D.left - 1), loose := D.loose ++ [(i.toNat, s)] }) := by
  have hb : D.burn = (0, { D with left := IntKind.i64.wrap (D.left - 1) }) := by
    unfold DS.burn burns; rw [ha, hd]; rfl
  unfold DS.write
  rw [if_neg (by rintro (x | x | x) <;> omega), hb, if_pos rfl]
def sa : List UInt8 := sec ⟨#[97]⟩
def sb' : List UInt8 := sec ⟨#[98]⟩
def sc : List UInt8 := sec ⟨#[99]⟩
theorem sa_len : sa.length = 64 := sec_len _
theorem sb_len : sb'.length = 64 := sec_len _
theorem sc_len : sc.length = 64 := sec_len _
def dd (n : Int) (l : List (Nat × List UInt8)) : DS := ⟨List.replicate 2 (List.replicate 64 0), l, false, n, false⟩
theorem dd_write (n : Int) (l : List (Nat × List UInt8)) (i : Nat) (s : List UInt8) (hs : s.length = 64) (hi : i < 2) : (dd n l).write (i : Int) s = (0, dd (IntKind.i64.wrap (n - 1)) (l ++ [(i, s)])) := by
  rw [write_plain _ _ _ rfl rfl hs (by omega) (by simp [dd]; omega)]
  simp [dd]
theorem dd_crash (n : Int) : (dd n [(0, sa), (0, sb'), (1, sc)]).crash [0, 2] = ⟨[sa, sc], [], false, 0, false⟩ := by
  unfold DS.crash dd
  simp only [List.length_cons, List.length_nil, keepN, List.replicate]
  simp
def dz : DS := ⟨[sa, sc], [], false, 0, false⟩
theorem dz_read0 : dz.read 0 = (sa, 0) := by simp [DS.read, dz, DS.shows]
theorem dz_read1 : dz.read 1 = (sc, 0) := by simp [DS.read, dz, DS.shows]
set_option maxRecDepth 100000 in
set_option maxHeartbeats 8000000 in
theorem lives_any (w : World) : Calls Try.prog 20 #[] w fun e w' => e = .returned (.bool true) ∧ NewMem w w' := by
  have hS := Sep.start w
  have HS := Lib.hid hS
  clear hS
  go_enter Try.func20, Try.ntmps20
  go_wp2_with fail
  refine (new_sep HS.out 2 (by decide) (by decide)).mono ?_
  rintro e W1 ⟨v, rfl, b, t1, rfl, ht1, hS1⟩
  have hdz : DS.zero 2 = dd 0 [] := rfl
  rw [hdz] at ht1
  have HT1 := Lib.hid ht1
  have HS1 := Lib.hid hS1
  clear ht1 hS1 hdz
  go_wp2_with fail
  refine (sector_any ⟨#[97]⟩ (by decide) _).mono ?_
  rintro e V1 ⟨rfl, hn1⟩
  have hs1 := HS1.out.grown hn1
  have HS1' := Lib.hid hs1
  clear hs1 hn1
  go_wp2_with fail
  have hw1 := write_sep HS1'.out HT1.out 0 ⟨(sec ⟨#[97]⟩).toArray⟩ (by show (sec _).toArray.size ≤ _; rw [List.size_toArray, sec_len]; decide) (by decide)
  have hw_1 : (dd 0 []).write (0 : Int) (⟨(sec ⟨#[97]⟩).toArray⟩ : ByteArray).data.toList = _ := dd_write 0 [] 0 sa (sec_len _) (by decide)
  rw [hw_1] at hw1
  clear hw_1
  refine hw1.mono ?_
  clear hw1
  rintro e W2 ⟨t2, rfl, ht2, hS2⟩
  simp only [List.nil_append, List.cons_append] at ht2
  have HT2 := Lib.hid ht2
  have HS2 := Lib.hid hS2
  clear ht2 hS2
  go_wp2_with fail
  refine (sector_any ⟨#[98]⟩ (by decide) _).mono ?_
  rintro e V2 ⟨rfl, hn2⟩
  have hs2 := HS2.out.grown hn2
  have HS2' := Lib.hid hs2
  clear hs2 hn2
  go_wp2_with fail
  have hw2 := write_sep HS2'.out HT2.out 0 ⟨(sec ⟨#[98]⟩).toArray⟩ (by show (sec _).toArray.size ≤ _; rw [List.size_toArray, sec_len]; decide) (by decide)
  have hw_2 : (dd (IntKind.i64.wrap (0 - 1)) [(0, sa)]).write (0 : Int) (⟨(sec ⟨#[98]⟩).toArray⟩ : ByteArray).data.toList = _ := dd_write (IntKind.i64.wrap (0 - 1)) [(0, sa)] 0 sb' (sec_len _) (by decide)
  rw [hw_2] at hw2
  clear hw_2
  refine hw2.mono ?_
  clear hw2
  rintro e W3 ⟨t3, rfl, ht3, hS3⟩
  simp only [List.nil_append, List.cons_append] at ht3
  have HT3 := Lib.hid ht3
  have HS3 := Lib.hid hS3
  clear ht3 hS3
  go_wp2_with fail
  refine (sector_any ⟨#[99]⟩ (by decide) _).mono ?_
  rintro e V3 ⟨rfl, hn3⟩
  have hs3 := HS3.out.grown hn3
  have HS3' := Lib.hid hs3
  clear hs3 hn3
  go_wp2_with fail
  have hw3 := write_sep HS3'.out HT3.out 1 ⟨(sec ⟨#[99]⟩).toArray⟩ (by show (sec _).toArray.size ≤ _; rw [List.size_toArray, sec_len]; decide) (by decide)
  have hw_3 : (dd (IntKind.i64.wrap ((IntKind.i64.wrap (0 - 1)) - 1)) [(0, sa), (0, sb')]).write (1 : Int) (⟨(sec ⟨#[99]⟩).toArray⟩ : ByteArray).data.toList = _ := dd_write (IntKind.i64.wrap ((IntKind.i64.wrap (0 - 1)) - 1)) [(0, sa), (0, sb')] 1 sc (sec_len _) (by decide)
  rw [hw_3] at hw3
  clear hw_3
  refine hw3.mono ?_
  clear hw3
  rintro e W4 ⟨t4, rfl, ht4, hS4⟩
  simp only [List.nil_append, List.cons_append] at ht4
  have HT4 := Lib.hid ht4
  have HS4 := Lib.hid hS4
  clear ht4 hS4
  go_wp2_with fail
  refine (loose_sep HS4.out HT4.out).mono ?_
  rintro e w' ⟨rfl, rfl⟩
  rw [show ((dd (IntKind.i64.wrap ((IntKind.i64.wrap ((IntKind.i64.wrap (0 - 1)) - 1)) - 1)) [(0, sa), (0, sb'), (1, sc)]).loose.length : Int) = 3 from rfl]
  go_wp2_with fail
  have hnb : NewMem W4 (W4.alloc (.cells #[.int .i64 0, .int .i64 2] 3)) := NewMem.alloc _ _
  have hs4 := HS4.out.grown hnb
  have hz : IntsAt (W4.alloc (.cells #[.int .i64 0, .int .i64 2] 3)) (some ⟨W4.heap.size, 0, none⟩) 2 [0, 2] := by
    refine ⟨rfl, by decide, fun _ => ⟨_, rfl, fun j z hz => ?_⟩⟩
    match j, hz with
    | 0, hz => simp at hz; subst hz; simp [go_sem, Addr.add]
    | 1, hz => simp at hz; subst hz; simp [go_sem, Addr.add]
    | j + 2, hz => simp at hz
  have hc := crash_sep hs4 HT4.out (by decide) (some ⟨W4.heap.size, 0, none⟩) 2 2 [0, 2] hz (fun _ ad e hF => by
    injection e with e; subst e
    have := t4.lt W4 (HS4.out.all t4 List.mem_cons_self).1 _ hF
    simp at this)
  rw [dd_crash] at hc
  refine hc.mono ?_
  clear hc hz hs4 hnb
  rintro e W5 ⟨t5, rfl, ht5, hS5⟩
  have HT5 := Lib.hid (show IsDrum b dz t5 from ht5)
  have HS5 := Lib.hid hS5
  clear ht5 hS5
  go_wp2_with fail
  refine (read_sep HS5.out HT5.out (by decide) 0).mono ?_
  rw [dz_read0]
  rintro e W6 ⟨rfl, hS6⟩
  have HS6 := Lib.hid hS6
  clear hS6
  go_wp2_with fail
  refine (read_sep HS6.out HT5.out (by decide) 1).mono ?_
  rw [dz_read1]
  rintro e W7 ⟨rfl, hS7⟩
  have HS7 := Lib.hid hS7
  clear hS7
  go_wp2_with fail
  refine (sector_any ⟨#[97]⟩ (by decide) _).mono ?_
  rintro e W8 ⟨rfl, hn8⟩
  have hS8 := HS7.out.grown hn8
  have HS8 := Lib.hid hS8
  clear hS8 hn8
  rw [show (sec ⟨#[97]⟩) = sa from rfl]
  go_wp2_with fail
  refine (sector_any ⟨#[99]⟩ (by decide) _).mono ?_
  rintro e W9 ⟨rfl, hn9⟩
  have hS9 := HS8.out.grown hn9
  have HS9 := Lib.hid hS9
  clear hS9 hn9
  rw [show (sec ⟨#[99]⟩) = sc from rfl]
  go_wp2_with fail
  refine (loose_sep HS9.out HT5.out).mono ?_
  rintro e w' ⟨rfl, rfl⟩
  rw [show ((dz).loose.length : Int) = 0 from rfl]
  go_wp2_with fail
  go_ret
  exact ⟨rfl, HS9.out.below⟩
end Go.Proofs.Ytjnbdikhajnciaa.Drum
