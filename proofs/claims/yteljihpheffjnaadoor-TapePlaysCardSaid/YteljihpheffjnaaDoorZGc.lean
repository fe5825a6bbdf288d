/- Texts of one proof, joined: Go, Gs, Gp, Gr, Gt, Gq, Gu. -/
import Derived.Test.YteljihpheffjnaaDoorZGb
import Derived.Test.YteljihpheffjnaaDoorZE
import Derived.Test.YteljihpheffjnaaDoorZR
import Derived.BigQuiet
import Derived.Test.YteljihpheffjnaaDoorZGa
set_option linter.unusedSimpArgs false
set_option linter.unusedVariables false
/- The tape in plain terms: what Append and Settle do. -/
namespace Go.Proofs.YteljihpheffjnaaDoor.Tape
open Go.RowKit Go.Proofs.YteljihpheffjnaaDoor.Ord Go.Proofs.YteljihpheffjnaaDoorW.PrintWords Go.Proofs.YteljihpheffjnaaDoor.Base Go.Proofs.YteljihpheffjnaaDoor.Drum
set_option linter.unusedVariables false
set_option linter.unusedSimpArgs false

/-- A tape. -/
structure TS where
  count : Nat
  life : Nat
  at_ : Nat
  err : Int
/-- So many sectors a record of n bytes needs. -/
def needN (n : Nat) : Nat := max 1 ((max n 1 - 1) / 51 + 1)
theorem needN_pos (n : Nat) : 0 < needN n := by unfold needN; omega
theorem needN_ge (n : Nat) : n ≤ 51 * needN n := by unfold needN; omega
theorem needN_le (n : Nat) : needN n ≤ n / 51 + 1 := by unfold needN; omega
theorem needN_lt (n p : Nat) (h : p + 1 < needN n) : 51 * (p + 1) < n := by unfold needN at h; omega
def piece (s : List UInt8) (p : Nat) : List UInt8 := (s.drop (51 * p)).take 51
theorem piece_len (s : List UInt8) (p : Nat) : (piece s p).length ≤ 51 := by unfold piece; rw [List.length_take]; omega
theorem piece_full (s : List UInt8) (p : Nat) (h : p + 1 < needN s.length) : (piece s p).length = 51 := by
  have := needN_lt _ _ h
  unfold piece; rw [List.length_take, List.length_drop]; omega
theorem pieces_take (s : List UInt8) : ∀ k, ((List.range k).map (piece s)).flatten = s.take (51 * k)
  | 0 => by simp
  | k + 1 => by
    rw [List.range_succ, List.map_append, List.flatten_append, pieces_take s k, Nat.mul_add, List.take_add]
    simp [piece]
theorem pieces_flat (s : List UInt8) : ((List.range (needN s.length)).map (piece s)).flatten = s := by
  rw [pieces_take, List.take_of_length_le (needN_ge _)]
/-- The sectors of a record. -/
def secOf (life n : Nat) (s : List UInt8) (p : Nat) : Sec := ⟨life, n, p, decide (p + 1 = needN s.length), piece s p⟩
theorem secOf_ok {life n : Nat} {s : List UInt8} {p : Nat} (hl : 0 < life ∧ life < 4294967296) (hn : n < 4294967296) (hp : p < 65536) (hp' : p < needN s.length) : (secOf life n s p).ok :=
  ⟨hl, hn, hp, piece_len _ _, fun h => piece_full _ _ (by have : ¬ p + 1 = needN s.length := by simpa [secOf] using h
                                                          omega)⟩
theorem secOf_len (life n : Nat) (s : List UInt8) (p : Nat) : (secOf life n s p).s.length ≤ 51 := piece_len _ _
def TS.puts (T : TS) (s : List UInt8) : List Nat → DS → Int × DS
  | [], D => (0, D)
  | p :: ps, D => if (D.write ((T.at_ + p : Nat) : Int) (layN (secOf T.life (T.count + 1) s p))).1 = 0 then TS.puts T s ps (D.write ((T.at_ + p : Nat) : Int) (layN (secOf T.life (T.count + 1) s p))).2 else D.write ((T.at_ + p : Nat) : Int) (layN (secOf T.life (T.count + 1) s p))
def TS.append (T : TS) (D : DS) (s : List UInt8) : Int × TS × DS :=
  if T.err ≠ 0 then (T.err, T, D)
  else if D.sure.length - T.at_ < needN s.length then (8, T, D)
  else if (T.puts s (List.range' 0 (needN s.length)) D).1 = 0 then (0, ⟨T.count + 1, T.life, T.at_ + needN s.length, 0⟩, (T.puts s (List.range' 0 (needN s.length)) D).2)
  else ((T.puts s (List.range' 0 (needN s.length)) D).1, { T with err := (T.puts s (List.range' 0 (needN s.length)) D).1 }, (T.puts s (List.range' 0 (needN s.length)) D).2)
def TS.settle (T : TS) (D : DS) : Int × TS × DS :=
  if T.err ≠ 0 then (T.err, T, D) else (D.settle.1, { T with err := D.settle.1 }, D.settle.2)
theorem write_len (D : DS) (i : Int) (s : List UInt8) : (D.write i s).2.sure.length = D.sure.length ∧ (D.write i s).2.loose.length ≤ D.loose.length + 1 := by
  unfold DS.write
  split
  · exact ⟨rfl, by simp⟩
  · split
    · exact ⟨rfl, by simp⟩
    · exact ⟨rfl, by simp [DS.burn]⟩
theorem puts_len (T : TS) (s : List UInt8) : ∀ (ps : List Nat) (D : DS), (T.puts s ps D).2.sure.length = D.sure.length ∧ (T.puts s ps D).2.loose.length ≤ D.loose.length + ps.length
  | [], D => ⟨rfl, by simp [TS.puts]⟩
  | p :: ps, D => by
    have h := write_len D ((T.at_ + p : Nat) : Int) (layN (secOf T.life (T.count + 1) s p))
    unfold TS.puts
    split
    · have ih := puts_len T s ps (D.write ((T.at_ + p : Nat) : Int) (layN (secOf T.life (T.count + 1) s p))).2
      rw [List.length_cons]
      exact ⟨ih.1.trans h.1, by omega⟩
    · rw [List.length_cons]
      exact ⟨h.1, by omega⟩
theorem append_len (T : TS) (D : DS) (s : List UInt8) : (T.append D s).2.2.sure.length = D.sure.length ∧ (T.append D s).2.2.loose.length ≤ D.loose.length + needN s.length := by
  have h := puts_len T s (List.range' 0 (needN s.length)) D
  rw [List.length_range'] at h
  unfold TS.append
  split
  · exact ⟨rfl, Nat.le_add_right _ _⟩
  · split
    · exact ⟨rfl, Nat.le_add_right _ _⟩
    · split
      · exact h
      · exact h
end Go.Proofs.YteljihpheffjnaaDoor.Tape
/- The law's examples, in plain terms. -/
namespace Go.Proofs.YteljihpheffjnaaDoor.Tape
open Go.RowKit Go.Proofs.YteljihpheffjnaaDoor.Ord Go.Proofs.YteljihpheffjnaaDoorW.PrintWords Go.Proofs.YteljihpheffjnaaDoor.Base Go.Proofs.YteljihpheffjnaaDoor.Drum
set_option linter.unusedVariables false
set_option linter.unusedSimpArgs false

theorem write_plain (D : DS) (i : Int) (s : List UInt8) (ha : D.armed = false) (hd : D.down = false) (hs : s.length = 64) (h0 : 0 ≤ i) (h1 : i < (D.sure.length : Int)) :
    D.write i s = (0, { D with left := IntKind.i64.wrap (D.left - 1), loose := D.loose ++ [(i.toNat, s)] }) := by
  have hb : D.burn = (0, { D with left := IntKind.i64.wrap (D.left - 1) }) := by
    unfold DS.burn burns; rw [ha, hd]; rfl
  unfold DS.write
  rw [if_neg (by rintro (x | x | x) <;> omega), hb, if_pos rfl]
theorem saysN_zero : saysN (List.replicate 64 0) = none := by
  unfold saysN
  rw [if_pos (Or.inl (by rfl))]
theorem saysN_nil : saysN [] = none := by
  unfold saysN
  rw [if_pos (Or.inl (by rfl))]
theorem great_none {D : DS} (h : ∀ j, DS.sec D j = none) : DS.great D = 0 := by
  have : ∀ l : List Nat, l.foldl (DS.great1 D) 0 = 0 := fun l => by
    induction l with
    | nil => rfl
    | cons j l ih => rw [List.foldl_cons, show DS.great1 D 0 j = 0 by unfold DS.great1; rw [h]]; exact ih
  exact this _
theorem rec_none {D : DS} {a n : Nat} (h : DS.sec D a = none) : DS.rec D a n = none := by
  unfold DS.rec
  cases hk : D.sure.length - a with
  | zero => rfl
  | succ k => rw [List.range'_succ]; unfold recL; rw [h]
theorem scan_none {D : DS} (h : DS.sec D 0 = none) : DS.scan D = ([], 0) := by
  unfold DS.scan
  cases hk : D.sure.length with
  | zero => rfl
  | succ k => rw [DS.scanN, rec_none h]
/-- A drum of eight sectors. -/
def dl (n : Int) (l : List (Nat × List UInt8)) : DS := ⟨List.replicate 8 (List.replicate 64 0), l, false, n, false⟩
theorem sec_clear (S : List (List UInt8)) (n : Int) (a d : Bool) (j : Nat) : DS.sec ⟨S, [], a, n, d⟩ j = saysN (S.getD j []) := rfl
theorem zero_sec (n : Int) (j : Nat) : DS.sec (dl n []) j = none := by
  unfold dl
  rw [sec_clear, List.getD_eq_getElem?_getD, List.getElem?_replicate]
  split
  · exact saysN_zero
  · exact saysN_nil
theorem dl_append (c n : Nat) (i : Int) (s : List UInt8) (l : List (Nat × List UInt8)) (hs : s.length ≤ 51) (hn : n < 8) :
    TS.append ⟨c, 1, n, 0⟩ (dl i l) s = (0, ⟨c + 1, 1, n + 1, 0⟩, dl (IntKind.i64.wrap (i - 1)) (l ++ [(n, layN (secOf 1 (c + 1) s 0))])) := by
  have hneed : needN s.length = 1 := by unfold needN; omega
  have hlen : (dl i l).sure.length = 8 := rfl
  have hw : (dl i l).write ((n : Nat) : Int) (layN (secOf 1 (c + 1) s 0)) = _ := write_plain _ _ _ rfl rfl (layN_len (secOf_len _ _ _ _)) (by omega) (by rw [hlen]; omega)
  have hp : TS.puts ⟨c, 1, n, 0⟩ s (List.range' 0 1) (dl i l) = (0, dl (IntKind.i64.wrap (i - 1)) (l ++ [(n, layN (secOf 1 (c + 1) s 0))])) := by
    show (if ((dl i l).write ((n + 0 : Nat) : Int) (layN (secOf 1 (c + 1) s 0))).1 = 0 then _ else _) = _
    rw [Nat.add_zero, hw, if_pos rfl]
    simp only [Int.toNat_natCast]
    rfl
  unfold TS.append
  rw [if_neg (by simp), hneed, hlen, if_neg (by simp only; omega), hp, if_pos rfl]
def la : List UInt8 := layN (secOf 1 1 [97] 0)
def lb : List UInt8 := layN (secOf 1 2 [98] 0)
theorem ok_a : (secOf 1 1 [97] 0).ok := secOf_ok (by decide) (by decide) (by decide) (by decide)
theorem ok_b : (secOf 1 2 [98] 0).ok := secOf_ok (by decide) (by decide) (by decide) (by decide)
theorem crash_b (n : Int) : (dl n [(0, la), (1, lb)]).crash [1] = ⟨(List.replicate 8 (List.replicate 64 0)).set 1 lb, [], false, 0, false⟩ := by
  unfold DS.crash dl
  simp only [List.length_cons, List.length_nil, keepN]
  simp
theorem crash_a (n : Int) : (dl n [(0, la), (1, lb)]).crash [0] = ⟨(List.replicate 8 (List.replicate 64 0)).set 0 la, [], false, 0, false⟩ := by
  unfold DS.crash dl
  simp only [List.length_cons, List.length_nil, keepN]
  simp
def db : DS := ⟨(List.replicate 8 (List.replicate 64 0)).set 1 lb, [], false, 0, false⟩
def da : DS := ⟨(List.replicate 8 (List.replicate 64 0)).set 0 la, [], false, 0, false⟩
theorem scan_db : DS.scan db = ([], 0) := scan_none (by unfold db; rw [sec_clear]; exact saysN_zero)
theorem sec_da0 : DS.sec da 0 = some (secOf 1 1 [97] 0) := by unfold da; rw [sec_clear]; exact says_lay ok_a
theorem sec_daj (j : Nat) (hj : j ≠ 0) : DS.sec da j = none := by
  unfold da
  rw [sec_clear, List.getD_eq_getElem?_getD, List.getElem?_set_ne (by omega), List.getElem?_replicate]
  split
  · exact saysN_zero
  · exact saysN_nil
theorem great_da : DS.great da = 1 := by
  have hl : da.sure.length = 8 := by unfold da; rw [List.length_set, List.length_replicate]
  unfold DS.great DS.greatL
  rw [hl]
  simp [List.range', DS.great1, sec_da0, sec_daj, secOf]
theorem scan_da : DS.scan da = ([[97]], 1) := by
  have hl : da.sure.length = 8 := by unfold da; rw [List.length_set, List.length_replicate]
  have hr : DS.rec da 0 1 = some ([[97]], 1) := by
    unfold DS.rec
    rw [hl]
    simp [List.range', recL, sec_da0, secOf, piece, needN]
  have hr1 : DS.rec da 1 2 = none := rec_none (sec_daj 1 (by omega))
  unfold DS.scan
  rw [hl, DS.scanN]
  simp only [List.length_nil, Nat.zero_add, hr]
  rw [if_neg (by decide), DS.scanN]
  simp [hr1]
end Go.Proofs.YteljihpheffjnaaDoor.Tape
/- The tape's methods over things that lie apart: made, state, Len, Life, Room, Settle, Need. -/
namespace Go.Proofs.YteljihpheffjnaaDoor.Tape
open Go.RowKit Go.Proofs.YteljihpheffjnaaDoor.Ord Go.Proofs.YteljihpheffjnaaDoorW.PrintWords Go.Proofs.YteljihpheffjnaaDoor.Base Go.Proofs.YteljihpheffjnaaDoor.Drum
set_option linter.unusedVariables false
set_option linter.unusedSimpArgs false
attribute [local go_sem] rdl_const rdl_func rdl_global rdl_nil rdl_cons
attribute [local irreducible] OpGives

/-- A block of its own. -/
def blockT (bk : Nat) (cs : Array Value) (t : TypeId) : Thing where
  P := fun W => W.heap[bk]? = some (.cells cs t (0, 0))
  F := fun k => k = bk
  kept := fun W W' G h hm hG => (hm.block bk (Array.getElem?_eq_some_iff.1 h).1 (hG bk rfl)).trans h
  lt := fun W h k hk => by rw [hk]; exact (Array.getElem?_eq_some_iff.1 h).1
def TS.cells (T : TS) (b : Nat) : Array Value := #[.pointer (some ⟨b, 0, none⟩), .int .i64 (T.count : Int), .int .i64 (T.life : Int), .int .i64 (T.at_ : Int), .int .i64 T.err]
def tapeT (tb b : Nat) (T : TS) : Thing := blockT tb (T.cells b) 27
def TAt (W : World) (tb b : Nat) (T : TS) : Prop := W.heap[tb]? = some (.cells (T.cells b) 27 (0, 0))
section
variable {B : Nat} {w W : World} {l : List Thing} {tb b : Nat} {T : TS} {D : DS} {t : Thing}
theorem sep_head {x : Thing} (h : Sep B w W (x :: l)) : x.P W := (h.all x List.mem_cons_self).1
theorem TAt.of (h : Sep B w W (tapeT tb b T :: l)) : TAt W tb b T := sep_head h
theorem TAt.c0 (h : TAt W tb b T) : W.cell? ⟨tb, 0, none⟩ = some (.pointer (some ⟨b, 0, none⟩)) := by rw [Lib.cell_of_heap h]; rfl
theorem TAt.c1 (h : TAt W tb b T) : W.cell? ⟨tb, 1, none⟩ = some (.int .i64 (T.count : Int)) := by rw [Lib.cell_of_heap h]; rfl
theorem TAt.c2 (h : TAt W tb b T) : W.cell? ⟨tb, 2, none⟩ = some (.int .i64 (T.life : Int)) := by rw [Lib.cell_of_heap h]; rfl
theorem TAt.c3 (h : TAt W tb b T) : W.cell? ⟨tb, 3, none⟩ = some (.int .i64 (T.at_ : Int)) := by rw [Lib.cell_of_heap h]; rfl
theorem TAt.c4 (h : TAt W tb b T) : W.cell? ⟨tb, 4, none⟩ = some (.int .i64 T.err) := by rw [Lib.cell_of_heap h]; rfl
theorem TAt.free (h : TAt W tb b T) (i : Nat) : W.frozen? ⟨tb, i, none⟩ = false := frozen_of_row W tb i _ _ h
theorem TAt.setE (h : TAt W tb b T) (e : Int) : TAt (W.setCell ⟨tb, 4, none⟩ (.int .i64 e)) tb b { T with err := e } := by
  exact cells_set h 4 _
theorem TAt.setA (h : TAt W tb b T) (e : Nat) : TAt (W.setCell ⟨tb, 3, none⟩ (.int .i64 (e : Int))) tb b { T with at_ := e } := by
  exact cells_set h 3 _
theorem TAt.setC (h : TAt W tb b T) (e : Nat) : TAt (W.setCell ⟨tb, 1, none⟩ (.int .i64 (e : Int))) tb b { T with count := e } := by
  exact cells_set h 1 _
theorem sep_setT {T' : TS} {i : Nat} {v : Value} (h : Sep B w W (tapeT tb b T :: l)) (h' : TAt (W.setCell ⟨tb, i, none⟩ v) tb b T') : Sep B w (W.setCell ⟨tb, i, none⟩ v) (tapeT tb b T' :: l) :=
  h.turn (t' := tapeT tb b T') (Mod.setCell _ _ _ rfl) h' (fun k hk => .inl hk)
theorem tmade_tape (h : TAt W tb b T) : Calls Tryd.prog 37 #[.pointer (some ⟨tb, 0, none⟩)] W fun e w' => e = .returned (.bool true) ∧ w' = W := by
  have c0 := h.c0
  clear h
  go_enter Tryd.func37, Tryd.ntmps37
  go_wp2
  go_ret
  exact ⟨rfl, rfl⟩
theorem tstate_tape (h : TAt W tb b T) : Calls Tryd.prog 33 #[.pointer (some ⟨tb, 0, none⟩)] W fun e w' => e = .returned (.int .i64 T.err) ∧ w' = W := by
  have c4 := h.c4
  have hm := Lib.hid (tmade_tape h)
  clear h
  go_enter Tryd.func33, Tryd.ntmps33
  go_wp2_with fail
  refine hm.out.mono ?_
  rintro e w' ⟨rfl, rfl⟩
  go_wp2
  go_ret
  exact ⟨rfl, rfl⟩
theorem tlen_tape (h : TAt W tb b T) : Calls Tryd.prog 12 #[.pointer (some ⟨tb, 0, none⟩)] W fun e w' => e = .returned (.int .i64 (T.count : Int)) ∧ w' = W := by
  have c1 := h.c1
  have hm := Lib.hid (tmade_tape h)
  clear h
  go_enter Tryd.func12, Tryd.ntmps12
  go_wp2_with fail
  refine hm.out.mono ?_
  rintro e w' ⟨rfl, rfl⟩
  go_wp2
  go_ret
  exact ⟨rfl, rfl⟩
theorem tlife_tape (h : TAt W tb b T) : Calls Tryd.prog 13 #[.pointer (some ⟨tb, 0, none⟩)] W fun e w' => e = .returned (.int .i64 (T.life : Int)) ∧ w' = W := by
  have c2 := h.c2
  have hm := Lib.hid (tmade_tape h)
  clear h
  go_enter Tryd.func13, Tryd.ntmps13
  go_wp2_with fail
  refine hm.out.mono ?_
  rintro e w' ⟨rfl, rfl⟩
  go_wp2
  go_ret
  exact ⟨rfl, rfl⟩
set_option maxHeartbeats 4000000 in
theorem need_any (n : Nat) (hn : n ≤ 1000000000) (w : World) : Calls Tryd.prog 16 #[.int .i64 (n : Int)] w fun e w' => e = .returned (.int .i64 (needN n : Int)) ∧ w' = w := by
  obtain ⟨m, hm⟩ : ∃ m : Nat, max (n : Int) 1 = (m : Int) ∧ m = max n 1 := ⟨max n 1, by omega, rfl⟩
  have h1 : wrap64 ((m : Int) - 1) = ((m - 1 : Nat) : Int) := w_sub (b := 1) (by omega) (by omega)
  have h2 : ((m - 1 : Nat) : Int).tdiv 51 = (((m - 1) / 51 : Nat) : Int) := rfl
  have h3 : wrap64 ((((m - 1) / 51 : Nat) : Int) + 1) = (((m - 1) / 51 + 1 : Nat) : Int) := w_one (by omega)
  have h4 : max 1 (((m - 1) / 51 + 1 : Nat) : Int) = (needN n : Int) := by unfold needN; rw [← hm.2]; omega
  go_enter Tryd.func16, Tryd.ntmps16
  go_wp2
  go_ret
  refine ⟨congrArg (fun z => Ending.returned (Value.int .i64 z)) ?_, rfl⟩
  show max 1 ((((max n 1 : Nat) : Int) - 1) / 51 + 1) = (needN n : Int)
  unfold needN; omega
end
end Go.Proofs.YteljihpheffjnaaDoor.Tape
/- tape.Scan and tape.Open over things that lie apart. -/
namespace Go.Proofs.YteljihpheffjnaaDoor.Tape
open Go.RowKit Go.Proofs.YteljihpheffjnaaDoor.Ord Go.Proofs.YteljihpheffjnaaDoorW.PrintWords Go.Proofs.YteljihpheffjnaaDoor.Base Go.Proofs.YteljihpheffjnaaDoor.Drum
set_option linter.unusedVariables false
set_option linter.unusedSimpArgs false
attribute [local go_sem] rdl_const rdl_func rdl_global rdl_nil rdl_cons
attribute [local irreducible] OpGives

/-- A list of texts. -/
def textsT (v : Value) (l : List (List UInt8)) : Thing where
  P := fun W => W.ownsRow 0 9 1 v l.length (strs l)
  F := fun k => v.ownBlock = some k
  kept := fun W W' G h hm hG => ownsRow_mod h hm hG
  lt := fun W h k hk => (h.lt k hk).2
theorem owns_low {w : World} {base : Nat} {e : TypeId} {size : Nat} {v : Value} {n : Nat} {xs : List Value} (h : w.ownsRow base e size v n xs) : w.ownsRow 0 e size v n xs := by
  refine ⟨h.1, ?_⟩
  rcases h.2 with hn | ⟨g, cap, cur, rfl, hb, hg, rest⟩
  · exact .inl hn
  · exact .inr ⟨g, cap, cur, rfl, Nat.zero_le _, hg, rest⟩
theorem texts_slice {W : World} {v : Value} {l : List (List UInt8)} (h : (textsT v l).P W) : ∃ a cp, v = .slice a l.length cp := by
  rcases h.2 with ⟨e, h0⟩ | ⟨g, cp, cur, e, _⟩
  · exact ⟨none, 0, by rw [e, h0]⟩
  · exact ⟨_, cp, e⟩
section
variable {B : Nat} {w W : World} {l : List Thing} {tb b : Nat} {D : DS} {t : Thing}
theorem scan_sep (h : Sep B w W (t :: l)) (ht : IsDrum b D t) (hd : D.down = false) (hn : D.loose.length ≤ 1000000) :
    Calls Tryd.prog 9 #[.pointer (some ⟨b, 0, none⟩)] W fun e W' => ∃ v, e = .returned (.tuple #[v, .int .i64 ((DS.scan D).2 : Int), .int .i64 (DS.great D : Int), .int .i64 0]) ∧ Sep B w W' (textsT v (DS.scan D).1 :: t :: l) := by
  obtain ⟨sb, cap, lv, rfl⟩ := ht
  refine (scan_at b sb cap lv D W (h.all _ List.mem_cons_self).1 hd hn).mono fun e W' ⟨v, he, ho, hw⟩ => ⟨v, he, ?_⟩
  exact h.new hw (t := textsT v (DS.scan D).1) (owns_low ho) (fun k hk => (ho.lt k hk).1)
theorem scan_down (h : Sep B w W (t :: l)) (ht : IsDrum b D t) (hd : D.down = true) :
    Calls Tryd.prog 9 #[.pointer (some ⟨b, 0, none⟩)] W fun e W' => e = .returned (.tuple #[.slice none 0 0, .int .i64 0, .int .i64 0, .int .i64 9]) ∧ W' = W := by
  obtain ⟨sb, cap, lv, rfl⟩ := ht
  have hr := ready_at b sb cap lv D W (h.all _ List.mem_cons_self).1
  rw [hd, if_pos rfl] at hr
  clear h hd
  go_enter Tryd.func9, Tryd.ntmps9
  go_wp2_with fail
  refine hr.mono ?_
  rintro e w' ⟨rfl, rfl⟩
  go_wp2
  refine bodyPost_ret (v := .tuple #[.slice none 0 0, .int .i64 0, .int .i64 0, .int .i64 9]) (by simp [results, Tryd.f9, go_sem]) rfl ?_
  exact ⟨rfl, rfl⟩
/-- What Open tells. -/
def DS.tape (D : DS) : TS := ⟨(DS.scan D).1.length, DS.great D + 1, (DS.scan D).2, 0⟩
def OpenFail (B : Nat) (w : World) (l : List Thing) (k : Int) (e : Ending) (W' : World) : Prop := e = .returned (.tuple #[.pointer none, .slice none 0 0, .int .i64 k]) ∧ Sep B w W' l
def OpenOk (B : Nat) (w : World) (l : List Thing) (b : Nat) (D : DS) (e : Ending) (W' : World) : Prop := ∃ tb v, e = .returned (.tuple #[.pointer (some ⟨tb, 0, none⟩), v, .int .i64 0]) ∧ Sep B w W' (tapeT tb b (DS.tape D) :: textsT v (DS.scan D).1 :: l)
def Opened (B : Nat) (w : World) (l : List Thing) (b : Nat) (D : DS) : Ending → World → Prop :=
  if D.down = true then OpenFail B w l 9 else if DS.great D = 4294967295 then OpenFail B w l 5 else OpenOk B w l b D
set_option maxHeartbeats 4000000 in
theorem open_sep (h : Sep B w W (t :: l)) (ht : IsDrum b D t) (hn : D.loose.length ≤ 1000000) (hgr : DS.great D < 4294967296) :
    Calls Tryd.prog 8 #[.pointer (some ⟨b, 0, none⟩)] W (Opened B w (t :: l) b D) := by
  unfold Opened
  by_cases hd : D.down = true
  · have hs := Lib.hid (scan_down h ht hd)
    have H := Lib.hid h
    rw [if_pos hd]
    clear h hd hgr
    go_enter Tryd.func8, Tryd.ntmps8
    go_wp2_with fail
    refine hs.out.mono ?_
    rintro e w' ⟨rfl, rfl⟩
    go_wp2
    refine bodyPost_ret (v := .tuple #[.pointer none, .slice none 0 0, .int .i64 9]) (by simp [results, Tryd.f8, go_sem]) rfl ?_
    exact ⟨rfl, H.out⟩
  · have hs := Lib.hid (scan_sep h ht (by simpa using hd) hn)
    rw [if_neg hd]
    by_cases hg : DS.great D = 4294967295
    · rw [if_pos hg]
      have hgi : (DS.great D : Int) = 4294967295 := by omega
      rw [hgi] at hs
      clear h hd hgr hg hgi
      go_enter Tryd.func8, Tryd.ntmps8
      go_wp2_with fail
      refine hs.out.mono ?_
      rintro e W1 ⟨v, rfl, hs1⟩
      have HS1 := Lib.hid hs1
      clear hs1
      go_wp2
      refine bodyPost_ret (v := .tuple #[.pointer none, .slice none 0 0, .int .i64 5]) (by simp [results, Tryd.f8, go_sem]) rfl ?_
      exact ⟨rfl, HS1.out.tail⟩
    · rw [if_neg hg]
      have hgi : ((DS.great D : Int) == 4294967295) = false := by simp; omega
      have hwr : wrap64 ((DS.great D : Int) + 1) = ((DS.great D + 1 : Nat) : Int) := w_one (by omega)
      unfold OpenOk DS.tape
      generalize DS.great D = gr at *
      clear h hd hgr hg
      go_enter Tryd.func8, Tryd.ntmps8
      go_wp2_with fail
      refine hs.out.mono ?_
      rintro e W1 ⟨v, rfl, hs1⟩
      obtain ⟨a, cp, rfl⟩ := texts_slice (sep_head hs1)
      have HS1 := Lib.hid hs1
      clear hs1
      go_wp2_with fail
      refine bodyPost_ret (v := .tuple #[.pointer (some ⟨W1.heap.size, 0, none⟩), .slice a (DS.scan D).1.length cp, .int .i64 0]) (by simp [results, Tryd.f8, go_sem]) rfl ?_
      rw [show (gr : Int) + 1 = ((gr + 1 : Nat) : Int) by omega]
      exact ⟨_, _, rfl, HS1.out.new (NewMem.alloc _ _) (heap_alloc_last _ _) (fun k hk => by rw [hk]; exact Nat.le_refl _)⟩
end
end Go.Proofs.YteljihpheffjnaaDoor.Tape
/- The law's comparisons of texts: SameTexts, begins. -/
namespace Go.Proofs.YteljihpheffjnaaDoor.Tape
open Go.RowKit Go.Proofs.YteljihpheffjnaaDoor.Ord Go.Proofs.YteljihpheffjnaaDoorW.PrintWords Go.Proofs.YteljihpheffjnaaDoor.Base Go.Proofs.YteljihpheffjnaaDoor.Drum
set_option linter.unusedVariables false
set_option linter.unusedSimpArgs false
attribute [local irreducible] OpGives

/-- The texts of a slice. -/
def StrsAt (w : World) (a : Option Addr) (n : Nat) (l : List (List UInt8)) : Prop :=
  l.length = n ∧ n ≤ 1000000000 ∧ (0 < n → ∃ ad : Addr, a = some ad ∧ ∀ j s, l[j]? = some s → w.cell? (ad.add j) = some (.string ⟨s.toArray⟩))
theorem StrsAt.drewN {w : World} {a : Option Addr} {n : Nat} {l : List (List UInt8)} (h : StrsAt w a n l) (k : Nat) : StrsAt (w.drewN k) a n l := h
theorem StrsAt.new {w w' : World} {a : Option Addr} {n : Nat} {l : List (List UInt8)} (h : StrsAt w a n l) (hn : NewMem w w') : StrsAt w' a n l :=
  ⟨h.1, h.2.1, fun h0 => by
    obtain ⟨ad, e, hc⟩ := h.2.2 h0
    refine ⟨ad, e, fun j s hj => ?_⟩
    have := hc j s hj
    rw [World.cell?_of_block (hn.block _ (World.block_lt_of_cell? w _ this))]
    exact this⟩
theorem strs_of {W : World} {a : Option Addr} {cp : Nat} {l : List (List UInt8)} (h : (textsT (.slice a l.length cp) l).P W) (hn : l.length ≤ 1000000000) : StrsAt W a l.length l := by
  refine ⟨rfl, hn, fun h0 => ?_⟩
  rcases h.2 with ⟨e, h1⟩ | ⟨g, cp', cur, e, _⟩
  · omega
  · injection e with e1 e2 e3
    subst e1
    refine ⟨_, rfl, fun j s hj => ?_⟩
    have hc := h.cells rfl
    exact hc j _ (by unfold strs; rw [List.getElem?_map, hj]; rfl)
/-- The first k of two lists are alike. -/
def alikeTo (la lb : List (List UInt8)) (k : Nat) : Prop := la.take k = lb.take k
theorem alike_more {la lb : List (List UInt8)} {k : Nat} {x : List UInt8} (h : alikeTo la lb k) (ha : la[k]? = some x) (hb : lb[k]? = some x) : alikeTo la lb (k + 1) := by
  unfold alikeTo at h ⊢
  rw [List.take_add_one, List.take_add_one, h, ha, hb]
theorem alike_not {la lb : List (List UInt8)} {k : Nat} {x y : List UInt8} (ha : la[k]? = some x) (hb : lb[k]? = some y) (hne : x ≠ y) : la ≠ lb := by
  intro e; subst e; rw [ha] at hb; injection hb with hb; exact hne hb
set_option maxHeartbeats 4000000 in
theorem same_at (a b : Option Addr) (n m ca cb : Nat) (la lb : List (List UInt8)) (w : World) (ha : StrsAt w a n la) (hb : StrsAt w b m lb) :
    Calls Tryd.prog 18 #[.slice a n ca, .slice b m cb] w fun e w' => e = .returned (.bool (decide (la = lb))) ∧ ∃ k, w' = w.drewN k := by
  obtain ⟨hla, hma, hca⟩ := ha
  obtain ⟨hlb, hmb, hcb⟩ := hb
  have HLA := Lib.hid hla
  have HLB := Lib.hid hlb
  have HCA := Lib.hid hca
  have HCB := Lib.hid hcb
  clear hla hlb hca hcb
  by_cases hnm : n = m
  · subst hnm
    obtain ⟨r, hr⟩ : ∃ r, r = decide (la = lb) := ⟨_, rfl⟩
    rw [← hr]
    have HR := Lib.hid hr
    clear hr
    go_enter Tryd.func18, Tryd.ntmps18
    go_wp2_with fail
    go_loopw [5] (fun i wr => ∃ k q : Nat, k ≤ n ∧ i = .int .i64 (k : Int) ∧ wr = w.drewN q ∧ Hid (alikeTo la lb k)) (fun i _ => n - (intOf i).toNat)
    case atStart => exact ⟨0, 0, Nat.zero_le _, rfl, rfl, Lib.hid rfl⟩
    case round =>
      obtain ⟨k, q, hk, rfl, rfl, hal⟩ := hrel
      by_cases hlt : k < n
      · obtain ⟨ad, rfl, hcells⟩ := HCA.out (by omega)
        obtain ⟨bd, rfl, hcellsb⟩ := HCB.out (by omega)
        obtain ⟨x, hx⟩ : ∃ z, la[k]? = some z := ⟨_, List.getElem?_eq_getElem (by have := HLA.out; omega)⟩
        obtain ⟨y, hy⟩ : ∃ z, lb[k]? = some z := ⟨_, List.getElem?_eq_getElem (by have := HLB.out; omega)⟩
        have c1 : ∀ q, (w.drewN q).cell? (ad.add k) = some (.string ⟨x.toArray⟩) := fun q => hcells k x hx
        have c2 : ∀ q, (w.drewN q).cell? (bd.add k) = some (.string ⟨y.toArray⟩) := fun q => hcellsb k y hy
        have HX := Lib.hid hx
        have HY := Lib.hid hy
        clear hcells hcellsb hx hy
        have hdk : decide (k < n) = true := decide_eq_true hlt
        by_cases hxy : x = y
        · subst hxy
          go_wp2_with fail
          go_quiet (fail)
          go_wp2_with fail
          go_roundw
          case rel => exact ⟨k + 1, _, hlt, by go_num, rfl, Lib.hid (alike_more hal.out HX.out HY.out)⟩
          case measure =>
            have hm : n - (k + 1) < n - k := by omega
            have ht : ((k : Int) + 1).toNat = k + 1 := by omega
            simp only [intOf, Int.toNat_natCast, ht]
            exact hm
        · have hne : (x == y) = false := beq_eq_false_iff_ne.2 hxy
          have hf : r = false := HR.out.trans (decide_eq_false (alike_not HX.out HY.out hxy))
          subst hf
          go_wp2_with fail
          go_quiet (fail)
          go_wp2_with fail
          go_ret
          exact ⟨rfl, q + nq, by simp⟩
      · have hdk : decide (k < n) = false := decide_eq_false hlt
        have hf : r = true := by
          rw [HR.out]
          refine decide_eq_true ?_
          have h1 := HLA.out
          have h2 := HLB.out
          have := hal.out
          unfold alikeTo at this
          rwa [List.take_of_length_le (by omega), List.take_of_length_le (by omega)] at this
        subst hf
        go_wp2_with fail
        go_ret
        exact ⟨rfl, _, rfl⟩
  · have hd : decide (n = m) = false := decide_eq_false hnm
    have hf : decide (la = lb) = false := decide_eq_false (fun e => hnm (by rw [← HLA.out, ← HLB.out, e]))
    rw [hf]
    have hnb : ((n : Int) == (m : Int)) = false := beq_eq_false_iff_ne.2 (by omega)
    go_enter Tryd.func18, Tryd.ntmps18
    go_wp2
    go_ret
    exact ⟨rfl, 0, rfl⟩
end Go.Proofs.YteljihpheffjnaaDoor.Tape
/- tape.Append. -/
namespace Go.Proofs.YteljihpheffjnaaDoor.Tape
open Go.RowKit Go.Proofs.YteljihpheffjnaaDoor.Ord Go.Proofs.YteljihpheffjnaaDoorW.PrintWords Go.Proofs.YteljihpheffjnaaDoor.Base Go.Proofs.YteljihpheffjnaaDoor.Drum
set_option linter.unusedVariables false
set_option linter.unusedSimpArgs false
attribute [local go_sem] rdl_const rdl_func rdl_global rdl_nil rdl_cons
attribute [local irreducible] OpGives

theorem size_at {W : World} {b sb cap : Nat} {lv : Value} {D : DS} (hd : DrumAt W b sb cap lv D) :
    Calls Tryd.prog 38 #[.pointer (some ⟨b, 0, none⟩)] W fun e W' => e = .returned (.int .i64 (D.sure.length : Int)) ∧ W = W' := size_of b _ _ _ W hd.cell.cells.1 hd.pos
section
variable {B : Nat} {w W : World} {l : List Thing} {tb b : Nat} {T : TS} {D : DS} {t : Thing}
set_option maxHeartbeats 4000000 in
theorem troom_tape (h : Sep B w W (tapeT tb b T :: t :: l)) (ht : IsDrum b D t) (ha : T.at_ ≤ D.sure.length) : Calls Tryd.prog 14 #[.pointer (some ⟨tb, 0, none⟩)] W fun e w' => e = .returned (.int .i64 ((D.sure.length - T.at_ : Nat) : Int)) ∧ ∃ n, w' = W.drewN n := by
  have hT := TAt.of h
  obtain ⟨sb, cap, lv, rfl⟩ := ht
  have hd : DrumAt W b sb cap lv D := (h.all (drumT b sb cap lv D) (by simp)).1
  have hfew := hd.few
  have hs := fun n => size_at (W := W.drewN n) (D := D) (b := b) (sb := sb) (cap := cap) (lv := lv) (hd.kept (F := fun _ => False) (Mod.of_below (below_drewN' (Below.refl _ _))) (fun _ _ => id))
  have HS := Lib.hid (fun n => (hs n).mono (R' := fun e w'' => e = .returned (.int .i64 (D.sure.length : Int)) ∧ ∃ m, w'' = W.drewN m) (fun e w'' ⟨h1, h2⟩ => ⟨h1, n, h2.symm⟩))
  have c0 := fun n => (show TAt (W.drewN n) tb b T from hT).c0
  have c3 := fun n => (show TAt (W.drewN n) tb b T from hT).c3
  have hm := Lib.hid (tmade_tape hT)
  have hw : IntKind.i64.wrap ((D.sure.length : Int) - (T.at_ : Int)) = ((D.sure.length - T.at_ : Nat) : Int) := by rw [IntKind.wrap_i64]; omega
  clear h hd hT hs ha hfew
  go_enter Tryd.func14, Tryd.ntmps14
  go_wp2_with fail
  refine hm.out.mono ?_
  rintro e w' ⟨rfl, rfl⟩
  go_wp2_with fail
  refine wp_region_quiet_lit (by kernel_rfl) (by kernel_rfl) ?_
  repeat (quiet_step (fail))
  refine wpQuiet_step (fun K hK => ?_)
  go_simp
  apply Exists.intro
  refine ⟨fun _ => (HS.out _), hK _ ?_⟩
  clear hK K
  repeat (quiet_step (fail))
  refine wpQuiet_nil ?_
  intro _ hw'
  obtain ⟨nq, hw''⟩ := hw'
  subst hw''
  go_wp2_with fail
  go_ret
  exact ⟨rfl, nq, rfl⟩
/-- What a tape's method leaves. -/
def TDid (B : Nat) (w : World) (l : List Thing) (tb b : Nat) (r : Int × TS × DS) (e : Ending) (W' : World) : Prop := ∃ t, e = .returned (.int .i64 r.1) ∧ IsDrum b r.2.2 t ∧ Sep B w W' (tapeT tb b r.2.1 :: t :: l)
set_option maxHeartbeats 4000000 in
theorem tsettle_tape (h : Sep B w W (tapeT tb b T :: t :: l)) (ht : IsDrum b D t) (hn : D.loose.length ≤ 1000000) : Calls Tryd.prog 11 #[.pointer (some ⟨tb, 0, none⟩)] W (TDid B w l tb b (T.settle D)) := by
  have hT := TAt.of h
  have hm := Lib.hid (tstate_tape hT)
  have c0 := hT.c0
  unfold TS.settle
  by_cases he : T.err = 0
  · rw [if_neg (by omega)]
    have hc := settle_sep h.swap ht hn
    have HC := Lib.hid hc
    rw [he] at hm
    clear hc h hT
    go_enter Tryd.func11, Tryd.ntmps11
    go_wp2_with fail
    refine hm.out.mono ?_
    rintro e w' ⟨rfl, rfl⟩
    go_wp2_with fail
    refine HC.out.mono ?_
    rintro e W1 ⟨t1, rfl, ht1, hs1⟩
    have hT1 := TAt.of hs1.swap
    have f4 := hT1.free 4
    have hs2 := sep_setT hs1.swap (hT1.setE D.settle.1)
    have c4 := hT1.c4
    have HS2 := Lib.hid hs2
    clear hs1 hs2 hT1
    go_wp2_with fail
    go_ret
    exact ⟨t1, rfl, ht1, HS2.out⟩
  · rw [if_pos he]
    have hbd : (T.err == 0) = false := by simpa using he
    have H := Lib.hid h
    clear h hT
    go_enter Tryd.func11, Tryd.ntmps11
    go_wp2_with fail
    refine hm.out.mono ?_
    rintro e w' ⟨rfl, rfl⟩
    go_wp2
    go_ret
    exact ⟨t, rfl, ht, H.out⟩
theorem new_setRow {A W : World} (h : NewMem A W) {g : Nat} (hg : A.heap.size ≤ g) (cs : Array Value) : NewMem A (W.setRow g cs) :=
  ⟨h.os, h.tape, h.output, by rw [size_setRow]; exact h.size, fun k hk => (setRow_other W g k cs (by omega)).trans (h.block k hk)⟩
/-- A sector's block, made anew. -/
def newF (B0 : Nat) : Fact NewMem := ⟨fun v W => ∃ k, v = .pointer (some ⟨k, 0, none⟩) ∧ B0 ≤ k ∧ W.heap[k]? = some (.cells #[.int .i64 0, .int .i64 0, .int .i64 0, .bool false, .string ByteArray.empty] 67 (0, 0)), fun v W W' ⟨k, e, hk, hc⟩ hn => ⟨k, e, hk, (hn.block _ (Array.getElem?_eq_some_iff.1 hc).1).trans hc⟩⟩
/-- The drum before the write, or behind it. -/
def PutS (B : Nat) (w : World) (l : List Thing) (b : Nat) (D D' : DS) (x : Bool) (W : World) : Prop := ∃ t, IsDrum b (if x then D' else D) t ∧ Sep B w W (t :: l)
/-- While the parts are put. -/
def AppR (T : TS) (D : DS) (s : List UInt8) (B : Nat) (w : World) (l : List Thing) (tb b N n : Nat) (i : Value) (wr : World) : Prop :=
  ∃ (k : Nat) (D1 : DS) (t1 : Thing), i = .int .i64 (k : Int) ∧ k ≤ n ∧ IsDrum b D1 t1 ∧ T.puts s (List.range' 0 n) D = T.puts s (List.range' k (n - k)) D1 ∧ D1.sure.length = N ∧ D1.loose.length ≤ D.loose.length + k ∧ Sep B w wr (tapeT tb b T :: t1 :: l)
theorem puts_more (T : TS) (s : List UInt8) (k n : Nat) (h : k < n) (D : DS) : T.puts s (List.range' k (n - k)) D = if (D.write ((T.at_ + k : Nat) : Int) (layN (secOf T.life (T.count + 1) s k))).1 = 0 then T.puts s (List.range' (k + 1) (n - (k + 1))) (D.write ((T.at_ + k : Nat) : Int) (layN (secOf T.life (T.count + 1) s k))).2 else D.write ((T.at_ + k : Nat) : Int) (layN (secOf T.life (T.count + 1) s k)) := by
  rw [show n - k = (n - (k + 1)) + 1 by omega, List.range'_succ, TS.puts]
theorem piece_cut (s : ByteArray) (k : Nat) (h : 51 * k ≤ s.size) : s.extract (51 * k) (min s.size (51 * k + 51)) = ⟨(piece s.data.toList k).toArray⟩ := by
  have hs : s.size = s.data.toList.length := Lib.size_eq s
  rw [Lib.extract_eq]
  unfold piece
  congr 2
  rw [hs] at h ⊢
  rw [List.take_eq_take_iff, List.length_drop]
  omega
set_option maxRecDepth 100000 in
set_option maxHeartbeats 8000000 in
theorem append_tape (h : Sep B w W (tapeT tb b T :: t :: l)) (ht : IsDrum b D t) (hn : D.loose.length ≤ 500000) (s : ByteArray) (hs : s.size ≤ 1000000) (ha : T.at_ ≤ D.sure.length) (hl : T.life < 9223372036854775808) (hc : T.count ≤ 1000000) :
    Calls Tryd.prog 10 #[.pointer (some ⟨tb, 0, none⟩), .string s] W (TDid B w l tb b (T.append D s.data.toList)) := by
  have hT := TAt.of h
  have hm := Lib.hid (tstate_tape hT)
  have hsl : s.data.toList.length = s.size := (Lib.size_eq s).symm
  have hf : D.sure.length ≤ 4096 := by
    obtain ⟨sb, cap, lv, rfl⟩ := ht
    have hd : DrumAt W b sb cap lv D := (h.all (drumT b sb cap lv D) (by simp)).1
    exact hd.few
  obtain ⟨sl, hsl'⟩ : ∃ sl, sl = s.data.toList := ⟨_, rfl⟩
  rw [← hsl'] at hsl ⊢
  unfold TS.append
  by_cases he : T.err = 0
  · rw [if_neg (by omega), hsl]
    have hneed := Lib.hid (need_any s.size (by omega) W)
    have hroom := Lib.hid (troom_tape h ht ha)
    obtain ⟨n, hnd⟩ : ∃ n, n = needN s.size := ⟨_, rfl⟩
    have hn0 : 0 < n ∧ 51 * (n - 1) ≤ s.size ∧ n ≤ 20000 := by
      have h1 := needN_pos s.size
      have h2 := needN_le s.size
      refine ⟨by omega, ?_, by omega⟩
      rcases Nat.lt_or_ge 1 n with h3 | h3
      · have := needN_lt s.size (n - 2) (by omega)
        rw [show n - 2 + 1 = n - 1 by omega] at this; omega
      · rw [show n - 1 = 0 by omega]; omega
    obtain ⟨N, hN⟩ : ∃ N, N = D.sure.length := ⟨_, rfl⟩
    rw [← hnd] at hneed ⊢
    rw [← hN] at hroom hf ha ⊢
    rw [he] at hm
    have hstart : AppR T D sl B w l tb b N n (.int .i64 0) W := ⟨0, D, t, rfl, by omega, ht, rfl, hN.symm, by omega, h⟩
    have HST := Lib.hid hstart
    have H := Lib.hid h
    have HND := Lib.hid hnd
    have HN0 := Lib.hid hn0
    have HNN := Lib.hid hN
    have HSL := Lib.hid hsl
    have HSL' := Lib.hid hsl'
    have HT := Lib.hid ht
    clear hT h hstart hnd hn0 hN hsl hsl' ht
    by_cases hroomy : N - T.at_ < n
    · rw [if_pos hroomy]
      have hd : decide (N - T.at_ < n) = true := decide_eq_true hroomy
      go_enter Tryd.func10, Tryd.ntmps10
      go_wp2_with fail
      refine hm.out.mono ?_
      rintro e w' ⟨rfl, rfl⟩
      go_wp2_with fail
      refine hneed.out.mono ?_
      rintro e w' ⟨rfl, rfl⟩
      go_wp2_with fail
      refine hroom.out.mono ?_
      rintro e w' ⟨rfl, m, rfl⟩
      go_wp2_with fail
      go_ret
      exact ⟨t, rfl, HT.out, H.out.drewN m⟩
    · rw [if_neg hroomy]
      obtain ⟨r, hr⟩ : ∃ r : Int × TS × DS, r = (if (T.puts sl (List.range' 0 n) D).1 = 0 then (0, ⟨T.count + 1, T.life, T.at_ + n, 0⟩, (T.puts sl (List.range' 0 n) D).2) else ((T.puts sl (List.range' 0 n) D).1, { T with err := (T.puts sl (List.range' 0 n) D).1 }, (T.puts sl (List.range' 0 n) D).2)) := ⟨_, rfl⟩
      rw [← hr]
      have HRR := Lib.hid hr
      clear hr
      have hd : decide (N - T.at_ < n) = false := decide_eq_false hroomy
      go_enter Tryd.func10, Tryd.ntmps10
      go_wp2_with fail
      refine hm.out.mono ?_
      rintro e w' ⟨rfl, rfl⟩
      go_wp2_with fail
      refine hneed.out.mono ?_
      rintro e w' ⟨rfl, rfl⟩
      go_wp2_with fail
      refine hroom.out.mono ?_
      rintro e w' ⟨rfl, m, rfl⟩
      go_wp2_with fail
      go_loopw [23] (fun i wr => AppR T D sl B w l tb b N n i wr) (fun i _ => n - (intOf i).toNat)
      case atStart =>
        obtain ⟨k0, D0, t0, e0, hk0, ht0, hp0, hl0, ho0, hs0⟩ := HST.out
        exact ⟨k0, D0, t0, e0, hk0, ht0, hp0, hl0, ho0, hs0.drewN m⟩
      case round =>
        obtain ⟨k, D1, t1, rfl, hk, ht1, hputs, hlen, hlo, hsep⟩ := hrel
        have HSP := Lib.hid hsep
        have HT1 := Lib.hid ht1
        have HPU := Lib.hid hputs
        have HLN := Lib.hid hlen
        have HLO := Lib.hid hlo
        clear hsep ht1 hputs hlen hlo hm hneed hroom
        by_cases hlt : k < n
        · have h1 : wrap64 (51 * (k : Int)) = ((51 * k : Nat) : Int) := by rw [show (51 : Int) * (k : Int) = ((51 * k : Nat) : Int) by omega]; exact w_id (by have := HN0.out; omega)
          have hdk : decide (k < n) = true := decide_eq_true hlt
          have hcut := piece_cut s k (by have := HN0.out; omega)
          have hcnd : 0 ≤ 51 * (k : Int) ∧ 51 * (k : Int) ≤ min (s.size : Int) (51 * (k : Int) + 51) := by have := HN0.out; omega
          go_wp2_with fail
          rw [show (min (s.size : Int) (51 * (k : Int) + 51)).toNat = min s.size (51 * k + 51) by omega, hcut]
          have hta : ∀ W, NewMem wr W → TAt W tb b T := fun W hW => TAt.of (HSP.out.grown hW)
          have HTA := Lib.hid hta
          clear hta hcnd hcut h1 hdk
          refine' wp_region_facts (S := (NewMem wr)) (R := NewMem) [eqF _ _, eqF _ _, eqF _ _, eqF _ (.int .i64 (T.life : Int)), eqF _ _, eqF _ _, eqF _ _, eqF _ (.int .i64 (T.count : Int)), eqF _ _, eqF _ _, eqF _ _, eqF _ _, eqF _ _, eqF _ _, eqF _ _, eqF _ _, newF wr.heap.size] (by kernel_rfl) (by kernel_rfl) ?hS ?h0 (Ord.steps_cons ?s0 (Ord.steps_cons ?s1 (Ord.steps_cons ?s2 (Ord.steps_cons ?s3 (Ord.steps_cons ?s4 (Ord.steps_cons ?s5 (Ord.steps_cons ?s6 (Ord.steps_cons ?s7 (Ord.steps_cons ?s8 (Ord.steps_cons ?s9 (Ord.steps_cons ?s10 (Ord.steps_cons ?s11 (Ord.steps_cons ?s12 (Ord.steps_cons ?s13 (Ord.steps_cons ?s14 (Ord.steps_cons ?s15 (Ord.steps_cons ?s16 (Ord.steps_nil)))))))))))))))))) ?fin
          case s0 =>
            intro g W hSW hd
            try simp only [Nat.zero_add, Nat.reduceAdd] at hd ⊢
            with_reducible refine OpGives.pre_reads [] 93 ?_ ?_ ?_
            · rfl
            · kernel_rfl
            simp only [List.map_cons, List.map_nil]
            refine OpGives.val (w' := W) ?_ ⟨NewMem.refl _, rfl⟩
            go_simp
            try with_reducible rfl
          case s1 =>
            intro g W hSW hd
            try simp only [Nat.zero_add, Nat.reduceAdd] at hd ⊢
            have h0 : g 0 = _ := hd 0 (by decide) (by kernel_rfl)
            with_reducible refine OpGives.pre_reads [(36, 0)] 93 ?_ ?_ ?_
            · rfl
            · kernel_rfl
            simp only [List.map_cons, List.map_nil]
            refine OpGives.val (w' := W) ?_ ⟨NewMem.refl _, rfl⟩
            go_simp
            try with_reducible rfl
          case s2 =>
            intro g W hSW hd
            try simp only [Nat.zero_add, Nat.reduceAdd] at hd ⊢
            have h1 : g 1 = _ := hd 1 (by decide) (by kernel_rfl)
            with_reducible refine OpGives.pre_reads [(37, 1)] 93 ?_ ?_ ?_
            · rfl
            · kernel_rfl
            simp only [List.map_cons, List.map_nil]
            refine OpGives.val (w' := W) ?_ ⟨NewMem.refl _, rfl⟩
            go_simp
            try with_reducible rfl
          case s3 =>
            intro g W hSW hd
            try simp only [Nat.zero_add, Nat.reduceAdd] at hd ⊢
            have h2 : g 2 = _ := hd 2 (by decide) (by kernel_rfl)
            with_reducible refine OpGives.pre_reads [(38, 2)] 93 ?_ ?_ ?_
            · rfl
            · kernel_rfl
            simp only [List.map_cons, List.map_nil]
            have c2 := (HTA.out W hSW).c2; refine OpGives.val (w' := W) ?_ ⟨NewMem.refl _, rfl⟩; go_simp
          case s4 =>
            intro g W hSW hd
            try simp only [Nat.zero_add, Nat.reduceAdd] at hd ⊢
            with_reducible refine OpGives.pre_reads [] 93 ?_ ?_ ?_
            · rfl
            · kernel_rfl
            simp only [List.map_cons, List.map_nil]
            refine OpGives.val (w' := W) ?_ ⟨NewMem.refl _, rfl⟩
            go_simp
            try with_reducible rfl
          case s5 =>
            intro g W hSW hd
            try simp only [Nat.zero_add, Nat.reduceAdd] at hd ⊢
            have h4 : g 4 = _ := hd 4 (by decide) (by kernel_rfl)
            with_reducible refine OpGives.pre_reads [(40, 4)] 93 ?_ ?_ ?_
            · rfl
            · kernel_rfl
            simp only [List.map_cons, List.map_nil]
            refine OpGives.val (w' := W) ?_ ⟨NewMem.refl _, rfl⟩
            go_simp
            try with_reducible rfl
          case s6 =>
            intro g W hSW hd
            try simp only [Nat.zero_add, Nat.reduceAdd] at hd ⊢
            have h5 : g 5 = _ := hd 5 (by decide) (by kernel_rfl)
            with_reducible refine OpGives.pre_reads [(41, 5)] 93 ?_ ?_ ?_
            · rfl
            · kernel_rfl
            simp only [List.map_cons, List.map_nil]
            refine OpGives.val (w' := W) ?_ ⟨NewMem.refl _, rfl⟩
            go_simp
            try with_reducible rfl
          case s7 =>
            intro g W hSW hd
            try simp only [Nat.zero_add, Nat.reduceAdd] at hd ⊢
            have h6 : g 6 = _ := hd 6 (by decide) (by kernel_rfl)
            with_reducible refine OpGives.pre_reads [(42, 6)] 93 ?_ ?_ ?_
            · rfl
            · kernel_rfl
            simp only [List.map_cons, List.map_nil]
            have c1 := (HTA.out W hSW).c1; refine OpGives.val (w' := W) ?_ ⟨NewMem.refl _, rfl⟩; go_simp
          case s8 =>
            intro g W hSW hd
            try simp only [Nat.zero_add, Nat.reduceAdd] at hd ⊢
            have h7 : g 7 = _ := hd 7 (by decide) (by kernel_rfl)
            with_reducible refine OpGives.pre_reads [(43, 7)] 93 ?_ ?_ ?_
            · rfl
            · kernel_rfl
            simp only [List.map_cons, List.map_nil]
            refine OpGives.val (w' := W) ?_ ⟨NewMem.refl _, rfl⟩
            go_simp
            try with_reducible rfl
          case s9 =>
            intro g W hSW hd
            try simp only [Nat.zero_add, Nat.reduceAdd] at hd ⊢
            with_reducible refine OpGives.pre_reads [] 93 ?_ ?_ ?_
            · rfl
            · kernel_rfl
            simp only [List.map_cons, List.map_nil]
            refine OpGives.val (w' := W) ?_ ⟨NewMem.refl _, rfl⟩
            go_simp
            try with_reducible rfl
          case s10 =>
            intro g W hSW hd
            try simp only [Nat.zero_add, Nat.reduceAdd] at hd ⊢
            with_reducible refine OpGives.pre_reads [] 93 ?_ ?_ ?_
            · rfl
            · kernel_rfl
            simp only [List.map_cons, List.map_nil]
            refine OpGives.val (w' := W) ?_ ⟨NewMem.refl _, rfl⟩
            go_simp
            try with_reducible rfl
          case s11 =>
            intro g W hSW hd
            try simp only [Nat.zero_add, Nat.reduceAdd] at hd ⊢
            with_reducible refine OpGives.pre_reads [] 93 ?_ ?_ ?_
            · rfl
            · kernel_rfl
            simp only [List.map_cons, List.map_nil]
            refine OpGives.val (w' := W) ?_ ⟨NewMem.refl _, rfl⟩
            go_simp
            try with_reducible rfl
          case s12 =>
            intro g W hSW hd
            try simp only [Nat.zero_add, Nat.reduceAdd] at hd ⊢
            have h11 : g 11 = _ := hd 11 (by decide) (by kernel_rfl)
            with_reducible refine OpGives.pre_reads [(47, 11)] 93 ?_ ?_ ?_
            · rfl
            · kernel_rfl
            simp only [List.map_cons, List.map_nil]
            refine OpGives.val (w' := W) ?_ ⟨NewMem.refl _, rfl⟩
            go_simp
            try with_reducible rfl
          case s13 =>
            intro g W hSW hd
            try simp only [Nat.zero_add, Nat.reduceAdd] at hd ⊢
            have h10 : g 10 = _ := hd 10 (by decide) (by kernel_rfl)
            have h12 : g 12 = _ := hd 12 (by decide) (by kernel_rfl)
            with_reducible refine OpGives.pre_reads [(46, 10), (48, 12)] 93 ?_ ?_ ?_
            · rfl
            · kernel_rfl
            simp only [List.map_cons, List.map_nil]
            refine OpGives.val (w' := W) ?_ ⟨NewMem.refl _, rfl⟩
            go_simp
            try with_reducible rfl
          case s14 =>
            intro g W hSW hd
            try simp only [Nat.zero_add, Nat.reduceAdd] at hd ⊢
            with_reducible refine OpGives.pre_reads [] 93 ?_ ?_ ?_
            · rfl
            · kernel_rfl
            simp only [List.map_cons, List.map_nil]
            refine OpGives.val (w' := W) ?_ ⟨NewMem.refl _, rfl⟩
            go_simp
            try with_reducible rfl
          case s15 =>
            intro g W hSW hd
            try simp only [Nat.zero_add, Nat.reduceAdd] at hd ⊢
            have h3 : g 3 = _ := hd 3 (by decide) (by kernel_rfl)
            have h8 : g 8 = _ := hd 8 (by decide) (by kernel_rfl)
            have h9 : g 9 = _ := hd 9 (by decide) (by kernel_rfl)
            have h13 : g 13 = _ := hd 13 (by decide) (by kernel_rfl)
            have h14 : g 14 = _ := hd 14 (by decide) (by kernel_rfl)
            with_reducible refine OpGives.pre_reads [(39, 3), (44, 8), (45, 9), (49, 13), (50, 14)] 93 ?_ ?_ ?_
            · rfl
            · kernel_rfl
            simp only [List.map_cons, List.map_nil]
            refine OpGives.val (w' := W) ?_ ⟨NewMem.refl _, rfl⟩
            go_simp
            try with_reducible rfl
          case s16 =>
            intro g W hSW hd
            try simp only [Nat.zero_add, Nat.reduceAdd] at hd ⊢
            with_reducible refine OpGives.pre_reads [] 93 ?_ ?_ ?_
            · rfl
            · kernel_rfl
            simp only [List.map_cons, List.map_nil]
            refine OpGives.val (v := .pointer (some ⟨W.heap.size, 0, none⟩)) (w' := W.alloc (.cells #[.int .i64 0, .int .i64 0, .int .i64 0, .bool false, .string ByteArray.empty] 67)) ?_ ⟨NewMem.alloc _ _, W.heap.size, rfl, hSW.size, heap_alloc_last _ _⟩; go_simp; rfl
          case hS => exact fun a c h k => NewMem.trans h k
          case h0 => exact below_drewN' (n := 1) (Below.refl _ _)
          case fin =>
            intro v W' hSW hf
            have h15 : v 15 = _ := hf 15 (Nat.lt_of_lt_of_eq (by decide : 15 < 17) rfl)
            have h16 := hf 16 (Nat.lt_of_lt_of_eq (by decide : 16 < 17) rfl)
            obtain ⟨kb, e16, hkb, hcell⟩ := h16
            have hw1 : IntKind.i64.wrap ((T.count : Int) + 1) = ((T.count + 1 : Nat) : Int) := by rw [IntKind.wrap_i64]; omega
            have hw2 : ((k : Int) == IntKind.i64.wrap ((n : Int) - 1)) = decide (k + 1 = needN sl.length) := by
              rw [IntKind.wrap_i64, HSL.out, ← HND.out]
              have := HN0.out
              by_cases hkn : k + 1 = n
              · rw [decide_eq_true hkn]; simp; omega
              · rw [decide_eq_false hkn]; simp; omega
            rw [hw1, hw2, ← HSL'.out] at h15
            have hX : v 15 = .agg (secCs (some (secOf T.life (T.count + 1) sl k))) := h15
            clear h15 hw1 hw2 hf
            obtain ⟨X, hXX⟩ : ∃ X, X = secOf T.life (T.count + 1) sl k := ⟨_, rfl⟩
            rw [← hXX] at hX
            have hinfo := sec_info (some X)
            have hn2 : NewMem wr (W'.setRow kb (secCs (some X))) := new_setRow hSW hkb _
            have hc2 : (W'.setRow kb (secCs (some X))).heap[kb]? = some (.cells (secCs (some X)) 67 (0, 0)) := setRow_heap _ _ _ _ _ _ hcell
            have hsep2 : Sep B w (W'.setRow kb (secCs (some X))) (blockT kb (secCs (some X)) 67 :: tapeT tb b T :: t1 :: l) := HSP.out.new hn2 hc2 (fun k hk => by rw [hk]; exact hkb)
            have HS2 := Lib.hid hsep2
            have HXX := Lib.hid hXX
            clear hn2 hc2 hsep2 hSW hXX
            generalize hF : Ord.pre _ _ v _ = F
            rw [Ord.pre_lit [some 36, some 37, some 38, some 39, some 40, some 41, some 42, some 43, some 44, some 45, some 46, some 47, some 48, some 49, some 50, some 51, some 9]
              (by kernel_rfl)] at hF
            simp only [Ord.puts, Nat.zero_add, Nat.reduceAdd] at hF
            subst hF
            rw [hX, e16]
            clear hX e16
            refine any_one (i := 17) (by kernel_rfl) (wpOp_skip (w' := W'.setRow kb (secCs (some X))) rfl rfl (exec_store_row 67 _ _ rfl kb (secCs (some X)) (by kernel_rfl) (by kernel_rfl) 67 _ hcell hinfo.1 hinfo.2.1 hinfo.2.2) ?_)
            clear hcell hinfo
            generalize W'.setRow kb (secCs (some X)) = W2 at *
            refine wpAny_done (by kernel_rfl) ?_ _
            try simp only [List.getElem_toArray, List.getElem_cons_succ, List.getElem_cons_zero]
            go_frame
            go_wp2_with fail
            obtain ⟨y, hy⟩ : ∃ y, y = D1.write ((T.at_ + k : Nat) : Int) (layN X) := ⟨_, rfl⟩
            have HY := Lib.hid hy
            have hwl := write_len D1 ((T.at_ + k : Nat) : Int) (layN X)
            rw [← hy] at hwl
            have HWL := Lib.hid hwl
            have hXok : X.s.length ≤ 51 ∧ X.life < 9223372036854775808 ∧ X.record < 9223372036854775808 ∧ X.part < 9223372036854775808 := by
              rw [HXX.out]
              exact ⟨secOf_len _ _ _ _, hl, by show T.count + 1 < _; omega, by show k < _; have := HN0.out; omega⟩
            have HXO := Lib.hid hXok
            have hlo1 : D1.loose.length ≤ 1000000 := by have := HLO.out; have := HN0.out; omega
            have HLO1 := Lib.hid hlo1
            have htz : ∀ W L, PutS B w (blockT kb (secCs (some X)) 67 :: tapeT tb b T :: l) b D1 y.2 L W → TAt W tb b T ∧ W.heap[kb]? = some (.cells (secCs (some X)) 67 (0, 0)) := fun W L ⟨t', _, hs'⟩ => ⟨(hs'.all (tapeT tb b T) (by simp)).1, (hs'.all (blockT kb (secCs (some X)) 67) (by simp)).1⟩
            have HTZ := Lib.hid htz
            clear hy hwl hXok hlo1 htz HTA
            have hat : IntKind.i64.wrap ((T.at_ : Int) + (k : Int)) = ((T.at_ + k : Nat) : Int) := by have := HN0.out; rw [IntKind.wrap_i64]; omega
            refine' wp_region_factsM (S := (fun L W => PutS B w (blockT kb (secCs (some X)) 67 :: tapeT tb b T :: l) b D1 y.2 (L 13) W)) (fun _ _ _ => True) [eqM _, eqM _, eqM _, eqM _, eqM (.pointer (some ⟨b, 0, none⟩)), eqM _, eqM _, eqM _, eqM (.int .i64 (T.at_ : Int)), eqM _, eqM (.int .i64 ((T.at_ + k : Nat) : Int)), eqM (.agg (secCs (some X))), eqM (.string ⟨(layN X).toArray⟩), eqM (.int .i64 y.1)] (by kernel_rfl) (by kernel_rfl) ?hst ?h0 (Ord.stepsM_cons ?s0 (Ord.stepsM_cons ?s1 (Ord.stepsM_cons ?s2 (Ord.stepsM_cons ?s3 (Ord.stepsM_cons ?s4 (Ord.stepsM_cons ?s5 (Ord.stepsM_cons ?s6 (Ord.stepsM_cons ?s7 (Ord.stepsM_cons ?s8 (Ord.stepsM_cons ?s9 (Ord.stepsM_cons ?s10 (Ord.stepsM_cons ?s11 (Ord.stepsM_cons ?s12 (Ord.stepsM_cons ?s13 (Ord.stepsM_nil))))))))))))))) ?fin
            case s0 =>
              intro g W L hL hSW hd
              try simp only [Nat.zero_add, Nat.reduceAdd] at hd ⊢
              with_reducible refine OpGives.pre_reads [] 93 ?_ ?_ ?_
              · rfl
              · kernel_rfl
              simp only [List.map_cons, List.map_nil]
              refine OpGives.val (w' := W) ?_ ⟨trivial, rfl, hSW⟩
              go_simp
              try with_reducible rfl
            case s1 =>
              intro g W L hL hSW hd
              try simp only [Nat.zero_add, Nat.reduceAdd] at hd ⊢
              with_reducible refine OpGives.pre_reads [] 93 ?_ ?_ ?_
              · rfl
              · kernel_rfl
              simp only [List.map_cons, List.map_nil]
              refine OpGives.val (w' := W) ?_ ⟨trivial, rfl, hSW⟩
              go_simp
              try with_reducible rfl
            case s2 =>
              intro g W L hL hSW hd
              try simp only [Nat.zero_add, Nat.reduceAdd] at hd ⊢
              have h1 : g 1 = _ := hd 1 (by decide) (by kernel_rfl)
              with_reducible refine OpGives.pre_reads [(53, 1)] 93 ?_ ?_ ?_
              · rfl
              · kernel_rfl
              simp only [List.map_cons, List.map_nil]
              refine OpGives.val (w' := W) ?_ ⟨trivial, rfl, hSW⟩
              go_simp
              try with_reducible rfl
            case s3 =>
              intro g W L hL hSW hd
              try simp only [Nat.zero_add, Nat.reduceAdd] at hd ⊢
              have h2 : g 2 = _ := hd 2 (by decide) (by kernel_rfl)
              with_reducible refine OpGives.pre_reads [(54, 2)] 93 ?_ ?_ ?_
              · rfl
              · kernel_rfl
              simp only [List.map_cons, List.map_nil]
              refine OpGives.val (w' := W) ?_ ⟨trivial, rfl, hSW⟩
              go_simp
              try with_reducible rfl
            case s4 =>
              intro g W L hL hSW hd
              try simp only [Nat.zero_add, Nat.reduceAdd] at hd ⊢
              have h3 : g 3 = _ := hd 3 (by decide) (by kernel_rfl)
              with_reducible refine OpGives.pre_reads [(55, 3)] 93 ?_ ?_ ?_
              · rfl
              · kernel_rfl
              simp only [List.map_cons, List.map_nil]
              have c0 := (HTZ.out W _ hSW).1.c0; refine OpGives.val (w' := W) ?_ ⟨trivial, rfl, hSW⟩; go_simp
            case s5 =>
              intro g W L hL hSW hd
              try simp only [Nat.zero_add, Nat.reduceAdd] at hd ⊢
              with_reducible refine OpGives.pre_reads [] 93 ?_ ?_ ?_
              · rfl
              · kernel_rfl
              simp only [List.map_cons, List.map_nil]
              refine OpGives.val (w' := W) ?_ ⟨trivial, rfl, hSW⟩
              go_simp
              try with_reducible rfl
            case s6 =>
              intro g W L hL hSW hd
              try simp only [Nat.zero_add, Nat.reduceAdd] at hd ⊢
              have h5 : g 5 = _ := hd 5 (by decide) (by kernel_rfl)
              with_reducible refine OpGives.pre_reads [(57, 5)] 93 ?_ ?_ ?_
              · rfl
              · kernel_rfl
              simp only [List.map_cons, List.map_nil]
              refine OpGives.val (w' := W) ?_ ⟨trivial, rfl, hSW⟩
              go_simp
              try with_reducible rfl
            case s7 =>
              intro g W L hL hSW hd
              try simp only [Nat.zero_add, Nat.reduceAdd] at hd ⊢
              have h6 : g 6 = _ := hd 6 (by decide) (by kernel_rfl)
              with_reducible refine OpGives.pre_reads [(58, 6)] 93 ?_ ?_ ?_
              · rfl
              · kernel_rfl
              simp only [List.map_cons, List.map_nil]
              refine OpGives.val (w' := W) ?_ ⟨trivial, rfl, hSW⟩
              go_simp
              try with_reducible rfl
            case s8 =>
              intro g W L hL hSW hd
              try simp only [Nat.zero_add, Nat.reduceAdd] at hd ⊢
              have h7 : g 7 = _ := hd 7 (by decide) (by kernel_rfl)
              with_reducible refine OpGives.pre_reads [(59, 7)] 93 ?_ ?_ ?_
              · rfl
              · kernel_rfl
              simp only [List.map_cons, List.map_nil]
              have c3 := (HTZ.out W _ hSW).1.c3; refine OpGives.val (w' := W) ?_ ⟨trivial, rfl, hSW⟩; go_simp
            case s9 =>
              intro g W L hL hSW hd
              try simp only [Nat.zero_add, Nat.reduceAdd] at hd ⊢
              with_reducible refine OpGives.pre_reads [] 93 ?_ ?_ ?_
              · rfl
              · kernel_rfl
              simp only [List.map_cons, List.map_nil]
              refine OpGives.val (w' := W) ?_ ⟨trivial, rfl, hSW⟩
              go_simp
              try with_reducible rfl
            case s10 =>
              intro g W L hL hSW hd
              try simp only [Nat.zero_add, Nat.reduceAdd] at hd ⊢
              have h8 : g 8 = _ := hd 8 (by decide) (by kernel_rfl)
              have h9 : g 9 = _ := hd 9 (by decide) (by kernel_rfl)
              with_reducible refine OpGives.pre_reads [(60, 8), (61, 9)] 93 ?_ ?_ ?_
              · rfl
              · kernel_rfl
              simp only [List.map_cons, List.map_nil]
              refine OpGives.val (w' := W) ?_ ⟨trivial, rfl, hSW⟩
              go_simp
              try with_reducible rfl
            case s11 =>
              intro g W L hL hSW hd
              try simp only [Nat.zero_add, Nat.reduceAdd] at hd ⊢
              with_reducible refine OpGives.pre_reads [] 93 ?_ ?_ ?_
              · rfl
              · kernel_rfl
              simp only [List.map_cons, List.map_nil]
              refine OpGives.val (w' := W) (exec_load_row 67 _ rfl kb ?_ _ _ (0, 0) _ (HTZ.out W _ hSW).2 Tryd.underlying67 rfl (sec_info (some X)).1) ⟨trivial, rfl, hSW⟩; rfl
            case s12 =>
              intro g W L hL hSW hd
              try simp only [Nat.zero_add, Nat.reduceAdd] at hd ⊢
              have h11 : g 11 = _ := hd 11 (by decide) (by kernel_rfl)
              with_reducible refine OpGives.pre_reads [(63, 11)] 93 ?_ ?_ ?_
              · rfl
              · kernel_rfl
              simp only [List.map_cons, List.map_nil]
              refine OpGives.call (f := 35) (args := #[.agg (secCs (some X))]) (w' := W) (by go_simp) ((lay_any X HXO.out.1 HXO.out.2.1 HXO.out.2.2.1 HXO.out.2.2.2 W).mono fun e w' ⟨he, hn⟩ => ⟨_, he, trivial, rfl, by obtain ⟨t', h1, h2⟩ := hSW; exact ⟨t', h1, h2.grown hn⟩⟩)
            case s13 =>
              intro g W L hL hSW hd
              try simp only [Nat.zero_add, Nat.reduceAdd] at hd ⊢
              have h4 : g 4 = _ := hd 4 (by decide) (by kernel_rfl)
              have h10 : g 10 = _ := hd 10 (by decide) (by kernel_rfl)
              have h12 : g 12 = _ := hd 12 (by decide) (by kernel_rfl)
              with_reducible refine OpGives.pre_reads [(56, 4), (62, 10), (64, 12)] 93 ?_ ?_ ?_
              · rfl
              · kernel_rfl
              simp only [List.map_cons, List.map_nil]
              obtain ⟨t', h1, h2⟩ := hSW; rw [hL] at h1; have h1 : IsDrum b D1 t' := h1; have hwv := write_sep h2 h1 ((T.at_ + k : Nat) : Int) ⟨(layN X).toArray⟩ (by rw [Lib.size_eq]; show (layN X).length ≤ _; rw [layN_len HXO.out.1]; decide) HLO1.out; have e0 : D1.write ((T.at_ + k : Nat) : Int) (⟨(layN X).toArray⟩ : ByteArray).data.toList = y := HY.out.symm; rw [e0] at hwv; refine OpGives.call (f := 34) (args := #[.pointer (some ⟨b, 0, none⟩), .int .i64 ((T.at_ + k : Nat) : Int), .string ⟨(layN X).toArray⟩]) (w' := W) (by go_simp) (hwv.mono fun e w' ⟨t2, he, hd, hs⟩ => ⟨_, he, trivial, rfl, t2, by simpa using hd, hs⟩)
            case hst => exact fun i j v w w' _ h _ => st_of (R := fun _ _ => True) (by repeat' first | exact trivial | with_reducible refine StL.eq ?_ | with_reducible refine StL.any ?_) i v w w' h trivial
            case h0 => exact ⟨t1, HT1.out, (HS2.out.perm (by exact (List.perm_middle (l₁ := [_, _])))).grown (below_drewN' (n := 1) (Below.refl _ _))⟩
            case fin =>
              intro v W3 L hL hSW hf
              have h13 : v 13 = _ := hf 13 (Nat.lt_of_lt_of_eq (by decide : 13 < 14) rfl)
              have h0 : v 0 = _ := hf 0 (Nat.lt_of_lt_of_eq (by decide : 0 < 14) rfl)
              have hl13 := hL 13 (Nat.lt_of_lt_of_eq (by decide : 13 < 14) rfl)
              have hPS : PutS B w (blockT kb (secCs (some X)) 67 :: tapeT tb b T :: l) b D1 y.2 (L 13) W3 := hSW
              rw [hl13] at hPS
              have HPS := Lib.hid hPS
              clear hf hL hl13 hSW hPS
              generalize hF : Ord.pre _ _ v _ = F
              rw [Ord.pre_lit [some 52, some 53, some 54, some 55, some 56, some 57, some 58, some 59, some 60, some 61, some 62, some 63, some 64, some 65]
                (by kernel_rfl)] at hF
              simp only [Ord.puts, Nat.zero_add, Nat.reduceAdd] at hF
              subst hF
              rw [h13, h0]
              clear h13 h0
              obtain ⟨t2, ht2, hs2⟩ := HPS.out
              have ht2' : IsDrum b y.2 t2 := ht2
              have HT2 := Lib.hid ht2'
              clear ht2 ht2'
              have hTT : TAt W3 tb b T := (hs2.all (tapeT tb b T) (by simp)).1
              have f4 := hTT.free 4
              have c4 := hTT.c4
              have hs3 : Sep B w (W3.setCell ⟨tb, 4, none⟩ (.int .i64 y.1)) (tapeT tb b { T with err := y.1 } :: t2 :: l) := by
                have := (hs2.perm (l' := tapeT tb b T :: t2 :: blockT kb (secCs (some X)) 67 :: l) (List.perm_middle (l₁ := [_, _]) (l₂ := l))).perm (List.Perm.refl _)
                exact sep_setT ((this.perm (l' := blockT kb (secCs (some X)) 67 :: tapeT tb b T :: t2 :: l) (List.perm_middle (l₁ := [_, _]) (l₂ := l))).tail) (hTT.setE y.1)
              have HS3 := Lib.hid hs3
              clear hs2 hs3 hTT
              refine any_one (i := 14) (by kernel_rfl) (wpOp_value (v := .pointer (some ⟨tb, 0, none⟩)) (w' := W3) rfl rfl (by go_simp) ?_)
              refine any_one (i := 15) (by kernel_rfl) (wpOp_value (v := .pointer (some ⟨tb, 4, none⟩)) (w' := W3) rfl rfl (by go_simp) ?_)
              refine any_one (i := 16) (by kernel_rfl) (wpOp_skip (w' := W3.setCell ⟨tb, 4, none⟩ (.int .i64 y.1)) rfl rfl (by go_simp) ?_)
              refine wpAny_done (by kernel_rfl) ?_ _
              try simp only [List.getElem_toArray, List.getElem_cons_succ, List.getElem_cons_zero]
              go_frame
              have hpm := puts_more T sl k n hlt D1
              rw [← HXX.out, ← HY.out] at hpm
              have HPM := Lib.hid hpm
              clear hpm
              by_cases hy0 : y.1 = 0
              · have HPM0 := Lib.hid (HPM.out.trans (if_pos hy0))
                rw [hy0] at HS3 ⊢
                have hTe : ({ T with err := 0 } : TS) = T := by cases T; simp only at he; subst he; rfl
                rw [hTe] at HS3
                clear c4 hTe
                have c5 := (TAt.of HS3.out).c4
                rw [he] at c5
                generalize W3.setCell ⟨tb, 4, none⟩ (.int .i64 0) = W4 at *
                go_wp2_with fail
                go_roundw
                case rel =>
                  refine ⟨k + 1, y.2, t2, by go_num, hlt, HT2.out, HPU.out.trans HPM0.out, HWL.out.1.trans HLN.out, by have := HWL.out; have := HLO.out; omega, HS3.out⟩
                case measure =>
                  have hm : n - (k + 1) < n - k := by omega
                  have ht : ((k : Int) + 1).toNat = k + 1 := by omega
                  simp only [intOf, Int.toNat_natCast, ht]
                  exact hm
              · have HPM0 := Lib.hid (HPM.out.trans (if_neg hy0))
                have hyb : (y.1 == 0) = false := by simpa using hy0
                go_wp2_with fail
                go_ret
                have hall : T.puts sl (List.range' 0 n) D = y := HPU.out.trans HPM0.out
                have hrr := HRR.out
                rw [hall, if_neg hy0] at hrr
                rw [hrr]
                exact ⟨t2, rfl, HT2.out, HS3.out⟩
        · obtain rfl : k = n := by omega
          have hdk : decide (k < k) = false := decide_eq_false (by omega)
          have hall : T.puts sl (List.range' 0 k) D = (0, D1) := by rw [HPU.out, Nat.sub_self]; rfl
          have hrr := HRR.out
          rw [hall, if_pos rfl] at hrr
          have HR2 := Lib.hid hrr
          have hTT := TAt.of HSP.out
          have f3 := hTT.free 3
          have f1 := hTT.free 1
          have c1 := hTT.c1
          have c3 := hTT.c3
          have hw1 : wrap64 ((T.count : Int) + 1) = ((T.count + 1 : Nat) : Int) := w_one (by omega)
          have hw2 : wrap64 ((T.at_ : Int) + (k : Int)) = ((T.at_ + k : Nat) : Int) := w_add (by have := HN0.out; omega)
          have hs2 := sep_setT HSP.out (hTT.setA (T.at_ + k))
          have hs3 := sep_setT hs2 ((TAt.of hs2).setC (T.count + 1))
          have HS3 := Lib.hid hs3
          clear hall hrr hTT hs2 hs3
          go_wp2_with fail
          go_ret
          rw [HR2.out, show (T.at_ : Int) + (k : Int) = ((T.at_ + k : Nat) : Int) by omega, show (T.count : Int) + 1 = ((T.count + 1 : Nat) : Int) by omega]
          have hTe : ({ ({ T with at_ := T.at_ + k } : TS) with count := T.count + 1 } : TS) = ⟨T.count + 1, T.life, T.at_ + k, 0⟩ := by cases T; simp only at he; subst he; rfl
          rw [hTe] at HS3
          exact ⟨t1, rfl, HT1.out, HS3.out⟩
  · rw [if_pos he]
    have hbd : (T.err == 0) = false := by simpa using he
    have H := Lib.hid h
    clear h hT
    go_enter Tryd.func10, Tryd.ntmps10
    go_wp2_with fail
    refine hm.out.mono ?_
    rintro e w' ⟨rfl, rfl⟩
    go_wp2
    go_ret
    exact ⟨t, rfl, ht, H.out⟩
end
end Go.Proofs.YteljihpheffjnaaDoor.Tape
/- The law's examples: lives. -/
namespace Go.Proofs.YteljihpheffjnaaDoor.Tape
open Go.RowKit Go.Proofs.YteljihpheffjnaaDoor.Ord Go.Proofs.YteljihpheffjnaaDoorW.PrintWords Go.Proofs.YteljihpheffjnaaDoor.Base Go.Proofs.YteljihpheffjnaaDoor.Drum
set_option linter.unusedVariables false
set_option linter.unusedSimpArgs false
attribute [local irreducible] OpGives

theorem opened_ok {D : DS} (hd : D.down = false) (hg : DS.great D ≠ 4294967295) (B : Nat) (w : World) (l : List Thing) (b : Nat) : Opened B w l b D = OpenOk B w l b D := by
  unfold Opened; rw [if_neg (by rw [hd]; decide), if_neg hg]
theorem tape_dl : DS.tape (dl 0 []) = ⟨0, 1, 0, 0⟩ := by unfold DS.tape; rw [scan_none (zero_sec 0 0), great_none (zero_sec 0)]; rfl
theorem scan_dl : (DS.scan (dl 0 [])).1 = [] := by rw [scan_none (zero_sec 0 0)]
theorem ints_one (W : World) (z : Int) : IntsAt (W.alloc (.cells #[.int .i64 z] 3)) (some ⟨W.heap.size, 0, none⟩) 1 [z] := by
  refine ⟨rfl, by decide, fun _ => ⟨_, rfl, fun j y hy => ?_⟩⟩
  match j, hy with
  | 0, hy => simp at hy; subst hy; simp [go_sem, Addr.add]
  | j + 1, hy => simp at hy
theorem strs_one (W : World) (s : List UInt8) : StrsAt (W.alloc (.cells #[.string ⟨s.toArray⟩] 9)) (some ⟨W.heap.size, 0, none⟩) 1 [s] := by
  refine ⟨rfl, by decide, fun _ => ⟨_, rfl, fun j y hy => ?_⟩⟩
  match j, hy with
  | 0, hy => simp at hy; subst hy; simp [go_sem, Addr.add]
  | j + 1, hy => simp at hy
set_option maxRecDepth 100000 in
set_option maxHeartbeats 8000000 in
theorem lives_any (w : World) : Calls Tryd.prog 7 #[] w fun e w' => e = .returned (.bool true) ∧ NewMem w w' := by
  have hS := Sep.start w
  have HS := Lib.hid hS
  clear hS
  go_enter Tryd.func7, Tryd.ntmps7
  go_wp2_with fail
  refine (new_sep HS.out 8 (by decide) (by decide)).mono ?_
  rintro e W1 ⟨v, rfl, b, t1, rfl, ht1, hS1⟩
  have HT1 := Lib.hid (show IsDrum b (dl 0 []) t1 from ht1)
  have hop := open_sep hS1 HT1.out (by decide) (by rw [great_none (zero_sec 0)]; decide)
  rw [opened_ok rfl (by rw [great_none (zero_sec 0)]; decide)] at hop
  have HOP := Lib.hid hop
  clear ht1 hS1 hop
  go_wp2_with fail
  refine HOP.out.mono ?_
  rintro e W2 ⟨tb, lv, rfl, hS2⟩
  rw [tape_dl, scan_dl] at hS2
  obtain ⟨la, lcp, rfl⟩ := texts_slice (sep_head (Sep.swap hS2))
  have hS2' := (Sep.swap hS2).tail
  have ha1 := append_tape hS2' HT1.out (by decide) ⟨#[97]⟩ (by decide) (by decide) (by decide) (by decide)
  rw [show (⟨#[97]⟩ : ByteArray).data.toList = [97] from rfl, dl_append 0 0 0 [97] [] (by decide) (by decide)] at ha1
  have HA1 := Lib.hid ha1
  clear hS2 hS2' ha1 HOP
  go_wp2_with fail
  refine HA1.out.mono ?_
  rintro e W3 ⟨t2, rfl, ht2, hS3⟩
  have HT2 := Lib.hid ht2
  have ha2 := append_tape hS3 ht2 (by decide) ⟨#[98]⟩ (by decide) (by decide) (by decide) (by decide)
  rw [show (⟨#[98]⟩ : ByteArray).data.toList = [98] from rfl, dl_append 1 1 (IntKind.i64.wrap (0 - 1)) [98] _ (by decide) (by decide)] at ha2
  have HA2 := Lib.hid ha2
  clear ht2 hS3 ha2 HA1
  go_wp2_with fail
  refine HA2.out.mono ?_
  rintro e W4 ⟨t3, rfl, ht3, hS4⟩
  have HT3 := Lib.hid (show IsDrum b (dl (IntKind.i64.wrap (IntKind.i64.wrap (0 - 1) - 1)) [(0, Tape.la), (1, Tape.lb)]) t3 from ht3)
  have HS4 := Lib.hid hS4
  clear ht3 hS4 HA2
  go_wp2_with fail
  refine (tlen_tape (TAt.of HS4.out)).mono ?_
  rintro e w' ⟨rfl, rfl⟩
  go_wp2_with fail
  refine (troom_tape HS4.out HT3.out (by decide)).mono ?_
  rintro e w' ⟨rfl, q1, rfl⟩
  have hS5 := HS4.out.drewN q1
  have HS5 := Lib.hid hS5
  clear hS5
  go_wp2_with fail
  refine (tlife_tape (TAt.of HS5.out)).mono ?_
  rintro e w' ⟨rfl, rfl⟩
  go_wp2_with fail
  refine (copy_sep (Sep.swap HS5.out) HT3.out (by decide)).mono ?_
  rintro e W5 ⟨v, rfl, c, t4, rfl, ht4, hS6⟩
  have HT4 := Lib.hid ht4
  have HS6 := Lib.hid hS6
  clear ht4 hS6
  go_wp2_with fail
  have hn6 : NewMem W5 (W5.alloc (.cells #[.int .i64 1] 3)) := NewMem.alloc _ _
  have hc6 := crash_sep (HS6.out.grown hn6) HT4.out (by decide) (some ⟨W5.heap.size, 0, none⟩) 1 1 [1] (ints_one W5 1) (fun _ ad e hF => by
    injection e with e; subst e
    have := t4.lt W5 (HS6.out.all t4 List.mem_cons_self).1 _ hF
    simp at this)
  rw [crash_b] at hc6
  refine hc6.mono ?_
  clear hc6 hn6
  rintro e W6 ⟨t5, rfl, ht5, hS7⟩
  have HT5 := Lib.hid (show IsDrum c db t5 from ht5)
  have HS7 := Lib.hid (Sep.swap hS7)
  clear ht5 hS7
  go_wp2_with fail
  have hn7 : NewMem W6 (W6.alloc (.cells #[.int .i64 0] 3)) := NewMem.alloc _ _
  have hc7 := crash_sep (HS7.out.grown hn7) HT3.out (by decide) (some ⟨W6.heap.size, 0, none⟩) 1 1 [0] (ints_one W6 0) (fun _ ad e hF => by
    injection e with e; subst e
    have := t3.lt W6 (HS7.out.all t3 List.mem_cons_self).1 _ hF
    simp at this)
  rw [crash_a] at hc7
  refine hc7.mono ?_
  clear hc7 hn7
  rintro e W7 ⟨t6, rfl, ht6, hS8⟩
  have HT6 := Lib.hid (show IsDrum b da t6 from ht6)
  have HS8 := Lib.hid (Sep.swap hS8)
  clear ht6 hS8
  go_wp2_with fail
  have hsc := scan_sep HS8.out HT5.out rfl (by decide)
  rw [scan_db] at hsc
  refine hsc.mono ?_
  clear hsc
  rintro e W8 ⟨xv, rfl, hS9⟩
  obtain ⟨xa, xc, rfl⟩ := texts_slice (sep_head hS9)
  have HS9 := Lib.hid (Sep.swap (hS9.tail))
  clear hS9
  go_wp2_with fail
  have hsd := scan_sep HS9.out HT6.out rfl (by decide)
  rw [scan_da, great_da] at hsd
  refine hsd.mono ?_
  clear hsd
  rintro e W9 ⟨yv, rfl, hS10⟩
  have hy := sep_head hS10
  obtain ⟨ya, yc, rfl⟩ := texts_slice hy
  have hyy := strs_of hy (by decide)
  have HY := Lib.hid hyy
  have HS10 := Lib.hid hS10
  clear hS10 hy hyy
  go_wp2_with fail
  have hn9 : NewMem W9 (W9.alloc (.cells #[.string ⟨#[97]⟩] 9)) := NewMem.alloc _ _
  have hst := same_at ya (some ⟨W9.heap.size, 0, none⟩) 1 1 yc 1 [[97]] [[97]] _ (HY.out.new hn9) (strs_one W9 [97])
  rw [decide_eq_true rfl] at hst
  have HS11 := Lib.hid (HS10.out.grown hn9)
  refine hst.mono ?_
  clear hst hn9
  rintro e w' ⟨rfl, q2, rfl⟩
  have HS12 := Lib.hid (HS11.out.drewN q2)
  have n51 : ∀ W, Calls Tryd.prog 16 #[.int .i64 51] W fun e w' => e = .returned (.int .i64 1) ∧ w' = W := fun W => need_any 51 (by decide) W
  have n52 : ∀ W, Calls Tryd.prog 16 #[.int .i64 52] W fun e w' => e = .returned (.int .i64 2) ∧ w' = W := fun W => need_any 52 (by decide) W
  go_wp2_with fail
  refine (n51 _).mono ?_
  rintro e w' ⟨rfl, rfl⟩
  go_wp2_with fail
  refine (n52 _).mono ?_
  rintro e w' ⟨rfl, rfl⟩
  go_wp2_with fail
  go_ret
  exact ⟨rfl, HS12.out.below⟩
end Go.Proofs.YteljihpheffjnaaDoor.Tape
