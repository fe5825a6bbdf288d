/- Texts of one proof, joined: Ga, Gb, Gc, Gd, Ge, Gf. -/
import Derived.Test.YteljihpheffjnaaDoorZE
import Derived.Lib.Strings
import Derived.Laws.BitsLemmas
import Derived.Test.YteljihpheffjnaaDoorShelf
import Derived.Test.YteljihpheffjnaaDoorZR
import Derived.BigQuiet
import Derived.Deep.CutRange
import Derived.Deep.DeepCutAuto
import Derived.Test.YteljihpheffjnaaDoorWZeros
set_option linter.unusedSimpArgs false
set_option linter.unusedVariables false
/- A tape's sectors in plain terms: numbers, weights, what a sector says, its bytes. -/
namespace Go.Proofs.YteljihpheffjnaaDoor.Tape
open Go.RowKit

theorem w_id {a : Nat} (h : a ≤ 9223372036854775807) : wrap64 (a : Int) = (a : Int) := by unfold wrap64; omega
theorem w_one {a : Nat} (h : a ≤ 140737488355328) : wrap64 ((a : Int) + 1) = ((a + 1 : Nat) : Int) := by unfold wrap64; omega
theorem w_add {a b : Nat} (h : a + b ≤ 9223372036854775807) : wrap64 ((a : Int) + (b : Int)) = ((a + b : Nat) : Int) := by unfold wrap64; omega
theorem w_sub {a b : Nat} (h : b ≤ a) (ha : a ≤ 9223372036854775807) : wrap64 ((a : Int) - (b : Int)) = ((a - b : Nat) : Int) := by unfold wrap64; omega
theorem w_mul {a b : Nat} (h : a * b ≤ 9223372036854775807) : wrap64 ((a : Int) * (b : Int)) = ((a * b : Nat) : Int) := by
  rw [← Int.natCast_mul]; exact w_id h
/-- The number of bytes, the first one the greatest. -/
def numL (l : List UInt8) : Nat := l.foldl (fun n b => n * 256 + b.toNat) 0
theorem numL_nil : numL [] = 0 := rfl
theorem numL_snoc (l : List UInt8) (b : UInt8) : numL (l ++ [b]) = numL l * 256 + b.toNat := by unfold numL; rw [List.foldl_append]; rfl
theorem fold_lt : ∀ (l : List UInt8) (a : Nat), l.foldl (fun n b => n * 256 + b.toNat) a < (a + 1) * 256 ^ l.length
  | [], a => by simp
  | b :: l, a => by
    have ih := fold_lt l (a * 256 + b.toNat)
    have hb := b.toNat_lt
    rw [List.foldl_cons, List.length_cons, Nat.pow_succ]
    refine Nat.lt_of_lt_of_le ih ?_
    rw [Nat.mul_comm (256 ^ l.length) 256, ← Nat.mul_assoc]
    exact Nat.mul_le_mul (by omega) (Nat.le_refl _)
theorem numL_lt (l : List UInt8) : numL l < 256 ^ l.length := by
  have := fold_lt l 0
  rw [Nat.zero_add, Nat.one_mul] at this
  exact this
/-- So many bytes of a number. -/
def beL : Nat → Nat → List UInt8
  | 0, _ => []
  | k + 1, n => beL k (n / 256) ++ [UInt8.ofNat (n % 256)]
theorem beL_len : ∀ k n, (beL k n).length = k
  | 0, _ => rfl
  | k + 1, n => by rw [beL, List.length_append, beL_len k]; rfl
theorem numL_beL : ∀ k n, n < 256 ^ k → numL (beL k n) = n
  | 0, n, h => by simp at h; subst h; rfl
  | k + 1, n, h => by
    rw [beL, numL_snoc, numL_beL k (n / 256) (by rw [Nat.pow_succ] at h; exact Nat.div_lt_of_lt_mul (by omega))]
    simp
    omega
theorem beL_at : ∀ (k n i : Nat), i < k → (beL k n)[i]? = some (UInt8.ofNat (n / 256 ^ (k - 1 - i) % 256))
  | 0, n, i, h => by omega
  | k + 1, n, i, hi => by
    rw [beL]
    rcases Nat.lt_or_ge i k with h | h
    · rw [List.getElem?_append_left (by rw [beL_len]; exact h), beL_at k (n / 256) i h, Nat.div_div_eq_div_mul]
      rw [show k + 1 - 1 - i = (k - 1 - i) + 1 by omega, Nat.pow_succ, Nat.mul_comm (256 ^ (k - 1 - i)) 256]
    · obtain rfl : i = k := by omega
      rw [List.getElem?_append_right (by rw [beL_len]; exact Nat.le_refl _), beL_len]
      simp
/-- The sum that is weighed: each byte by its place. -/
def sumFrom : Nat → List UInt8 → Nat
  | _, [] => 0
  | i, b :: l => (i + 1) * b.toNat + sumFrom (i + 1) l
theorem sumFrom_append : ∀ (l m : List UInt8) (i : Nat), sumFrom i (l ++ m) = sumFrom i l + sumFrom (i + l.length) m
  | [], m, i => by simp [sumFrom]
  | b :: l, m, i => by
    rw [List.cons_append, sumFrom, sumFrom, sumFrom_append l m (i + 1), List.length_cons]
    rw [show i + 1 + l.length = i + (l.length + 1) by omega]; omega
theorem sumFrom_le : ∀ (l : List UInt8) (i n : Nat), i + l.length ≤ n → sumFrom i l ≤ l.length * (n * 255)
  | [], i, n, _ => by simp [sumFrom]
  | b :: l, i, n, h => by
    rw [List.length_cons] at h
    have ih := sumFrom_le l (i + 1) n (by omega)
    have hb := b.toNat_lt
    have e : (l.length + 1) * (n * 255) = l.length * (n * 255) + n * 255 := by rw [Nat.add_mul, Nat.one_mul]
    rw [sumFrom, List.length_cons, e]
    have : (i + 1) * b.toNat ≤ n * 255 := Nat.mul_le_mul (by omega) (by omega)
    omega
def weighL (l : List UInt8) : Nat := sumFrom 0 l % 65521
theorem weighL_lt (l : List UInt8) : weighL l < 65536 := by unfold weighL; omega
/-- What a sector says. -/
structure Sec where
  life : Nat
  record : Nat
  part : Nat
  last : Bool
  s : List UInt8
/-- The count byte. -/
def cntL (l : List UInt8) : Nat := (l.getD 10 0).toNat
def saysN (l : List UInt8) : Option Sec :=
  if numL (l.take 4) = 0 ∨ 51 < cntL l % 128 ∨ (cntL l < 128 ∧ cntL l % 128 < 51) then none
  else if (((l.take 62).drop (11 + cntL l % 128)).any fun b => b != 0) = true ∨ weighL (l.take 62) ≠ numL (l.drop 62) then none
  else some ⟨numL (l.take 4), numL ((l.drop 4).take 4), numL ((l.drop 8).take 2), decide (128 ≤ cntL l), (l.drop 11).take (cntL l % 128)⟩
/-- A sector's first bytes, and all of them. -/
def headL (x : Sec) : List UInt8 := beL 4 x.life ++ (beL 4 x.record ++ (beL 2 x.part ++ (beL 1 (x.s.length + if x.last then 128 else 0) ++ (x.s ++ List.replicate (51 - x.s.length) 0))))
def layN (x : Sec) : List UInt8 := headL x ++ beL 2 (weighL (headL x))
/-- A sector that may be laid. -/
structure Sec.ok (x : Sec) : Prop where
  life : 0 < x.life ∧ x.life < 4294967296
  record : x.record < 4294967296
  part : x.part < 65536
  len : x.s.length ≤ 51
  full : x.last = false → x.s.length = 51
theorem headL_len {x : Sec} (h : x.s.length ≤ 51) : (headL x).length = 62 := by
  unfold headL
  simp only [List.length_append, beL_len, List.length_replicate]
  omega
theorem layN_len {x : Sec} (h : x.s.length ≤ 51) : (layN x).length = 64 := by
  unfold layN; rw [List.length_append, beL_len, headL_len h]
theorem take_app {α : Type} {a b : List α} {n : Nat} (h : a.length = n) : (a ++ b).take n = a := by rw [← h, List.take_left]
theorem drop_app {α : Type} {a b : List α} {n : Nat} (h : a.length = n) : (a ++ b).drop n = b := by rw [← h, List.drop_left]
theorem says_lay {x : Sec} (h : x.ok) : saysN (layN x) = some x := by
  obtain ⟨⟨hl0, hl1⟩, hr, hp, hs, hf⟩ := h
  have hh := headL_len hs
  have e62 : (layN x).take 62 = headL x := by unfold layN; exact take_app hh
  have d62 : (layN x).drop 62 = beL 2 (weighL (headL x)) := by unfold layN; exact drop_app hh
  obtain ⟨c, hc⟩ : ∃ c, c = x.s.length + if x.last then 128 else 0 := ⟨_, rfl⟩
  have hc1 : c < 256 := by rw [hc]; split <;> omega
  have hform : layN x = beL 4 x.life ++ (beL 4 x.record ++ (beL 2 x.part ++ (beL 1 c ++ (x.s ++ (List.replicate (51 - x.s.length) 0 ++ beL 2 (weighL (headL x))))))) := by
    unfold layN
    conv => lhs; lhs; unfold headL
    rw [← hc]
    simp only [List.append_assoc]
  have e4 : (layN x).take 4 = beL 4 x.life := by rw [hform]; exact take_app (beL_len _ _)
  have d4 : (layN x).drop 4 = beL 4 x.record ++ (beL 2 x.part ++ (beL 1 c ++ (x.s ++ (List.replicate (51 - x.s.length) 0 ++ beL 2 (weighL (headL x)))))) := by rw [hform]; exact drop_app (beL_len _ _)
  have d8 : (layN x).drop 8 = beL 2 x.part ++ (beL 1 c ++ (x.s ++ (List.replicate (51 - x.s.length) 0 ++ beL 2 (weighL (headL x))))) := by
    rw [show 8 = 4 + 4 from rfl, ← List.drop_drop, d4]; exact drop_app (beL_len _ _)
  have d10 : (layN x).drop 10 = beL 1 c ++ (x.s ++ (List.replicate (51 - x.s.length) 0 ++ beL 2 (weighL (headL x)))) := by
    rw [show 10 = 8 + 2 from rfl, ← List.drop_drop, d8]; exact drop_app (beL_len _ _)
  have d11 : (layN x).drop 11 = x.s ++ (List.replicate (51 - x.s.length) 0 ++ beL 2 (weighL (headL x))) := by
    rw [show 11 = 10 + 1 from rfl, ← List.drop_drop, d10]; exact drop_app (beL_len _ _)
  have hb1 : beL 1 c = [UInt8.ofNat c] := by
    simp only [beL, List.nil_append]
    congr 2
    omega
  have hcnt : cntL (layN x) = c := by
    unfold cntL
    have : (layN x)[10]? = some (UInt8.ofNat c) := by
      have := congrArg (fun l => l[0]?) d10
      simp only [List.getElem?_drop, Nat.add_zero] at this
      rw [this, hb1]; rfl
    rw [List.getD_eq_getElem?_getD, this]
    simp
    omega
  have hmod : c % 128 = x.s.length := by rw [hc]; split <;> omega
  have hlast : decide (128 ≤ c) = x.last := by
    rw [hc]; cases x.last <;> simp <;> omega
  unfold saysN
  rw [hcnt, hmod, e4, numL_beL 4 _ (by simpa using hl1)]
  rw [if_neg (by
    rintro (h | h | ⟨h1, h2⟩)
    · omega
    · omega
    · have : x.last = false := by rw [← hlast]; simp; omega
      have := hf this; omega)]
  rw [e62, d62, numL_beL 2 _ (by have := weighL_lt (headL x); simpa using this)]
  have hz : ((headL x).drop (11 + x.s.length)) = List.replicate (51 - x.s.length) 0 := by
    unfold headL
    rw [← hc]
    rw [show 11 + x.s.length = 4 + (4 + (2 + (1 + x.s.length))) by omega]
    rw [← List.drop_drop, drop_app (beL_len _ _), ← List.drop_drop, drop_app (beL_len _ _), ← List.drop_drop, drop_app (beL_len _ _), ← List.drop_drop, drop_app (beL_len _ _), drop_app rfl]
  rw [hz, if_neg (by
    rintro (h | h)
    · rw [List.any_eq_true] at h
      obtain ⟨b, hb, hb0⟩ := h
      rw [List.eq_of_mem_replicate hb] at hb0
      simp at hb0
    · exact h rfl)]
  rw [d4, take_app (beL_len _ _), d8, take_app (beL_len _ _), d11, take_app rfl, numL_beL 4 _ (by simpa using hr), numL_beL 2 _ (by simpa using hp), hlast]
theorem says_life {l : List UInt8} {x : Sec} (h : saysN l = some x) : 0 < x.life := by
  unfold saysN at h
  split at h
  · cases h
  · rename_i h1
    split at h
    · cases h
    · injection h with h
      subst h
      simp only
      omega
end Go.Proofs.YteljihpheffjnaaDoor.Tape
/- tape.number, weigh, put: walked. -/
namespace Go.Proofs.YteljihpheffjnaaDoor.Tape
open Go.RowKit Go.Proofs.YteljihpheffjnaaDoor.Ord Go.Proofs.YteljihpheffjnaaDoorW.PrintWords Go.Proofs.YteljihpheffjnaaDoor.Base
set_option linter.unusedVariables false
set_option linter.unusedSimpArgs false

theorem take_byte (s : ByteArray) (k : Nat) (h : k < s.size) : s.data.toList.take (k + 1) = s.data.toList.take k ++ [s[k]] := by
  rw [List.take_succ_eq_append_getElem (by simpa using h)]; rfl
theorem wraps_i64 (n : Int) (h₀ : 0 ≤ n) (h₁ : n < 2 ^ 63) : IntKind.i64.wrap n = n := by rw [IntKind.wrap_i64]; omega
theorem or_byte (m b : Nat) (hm : m < 281474976710656) (hb : b < 256) : bits .or .i64 ((m : Int) * 256) (b : Int) = ((m * 256 + b : Nat) : Int) := by
  rw [bits_join .i64 63 (by decide) wraps_i64 8 ((m : Int) * 256) (b : Int) (by omega) (by omega) (by omega) (by omega) (by omega) (by omega)]
  omega
set_option maxHeartbeats 1000000 in
theorem number_any (s : ByteArray) (hs : s.size ≤ 6) (w : World) :
    Calls Tryd.prog 81 #[.string s] w fun e w' => e = .returned (.int .i64 (numL s.data.toList : Int)) ∧ w' = w := by
  go_enter Tryd.func81, Tryd.ntmps81
  go_wp2
  go_loop [3, 7] (fun n i => ∃ k : Nat, k ≤ s.size ∧ i = .int .i64 k ∧ n = .int .i64 (numL (s.data.toList.take k) : Int)) (fun _ i => s.size - (intOf i).toNat)
  case atStart => exact ⟨0, Nat.zero_le _, rfl, rfl⟩
  case round =>
    obtain ⟨k, hk, rfl, rfl⟩ := hrel
    by_cases hlt : k < s.size
    · have hl := numL_lt (s.data.toList.take k)
      have hn : numL (s.data.toList.take k) < 281474976710656 := by
        refine Nat.lt_of_lt_of_le hl ?_
        exact Nat.le_trans (Nat.pow_le_pow_right (by decide) (show (s.data.toList.take k).length ≤ 6 by rw [List.length_take]; omega)) (by decide)
      have HS : Hid (numL (s.data.toList.take (k + 1)) = numL (s.data.toList.take k) * 256 + s[k].toNat) := by rw [take_byte s k hlt, numL_snoc]; exact rfl
      generalize hm : numL (s.data.toList.take k) = m at *
      have hb : s[k].toNat < 256 := s[k].toNat_lt
      have ho := or_byte m s[k].toNat hn hb
      clear hm hl
      go_wp2
      go_round
      case rel => exact ⟨k + 1, by omega, by go_num, by rw [HS.out]; go_num⟩
      case measure => simp [intOf]; omega
    · go_wp2
      go_ret
      exact ⟨by rw [List.take_of_length_le (by simp; omega)]; rfl, rfl⟩
set_option maxHeartbeats 1000000 in
theorem weigh_eq (s : ByteArray) (hs : s.size ≤ 1000) (w : World) :
    Calls Tryd.prog 61 #[.string s] w fun e w' => e = .returned (.int .i64 (weighL s.data.toList : Int)) ∧ w' = w := by
  go_enter Tryd.func61, Tryd.ntmps61
  go_wp2
  go_loop [3, 7] (fun n i => ∃ k : Nat, k ≤ s.size ∧ i = .int .i64 k ∧ n = .int .i64 (sumFrom 0 (s.data.toList.take k) : Int)) (fun _ i => s.size - (intOf i).toNat)
  case atStart => exact ⟨0, Nat.zero_le _, rfl, rfl⟩
  case round =>
    obtain ⟨k, hk, rfl, rfl⟩ := hrel
    by_cases hlt : k < s.size
    · have hbb : s[k].toNat < 256 := s[k].toNat_lt
      have hsum : sumFrom 0 (s.data.toList.take k) ≤ 1000 * 255000 := by
        have h1 := sumFrom_le (s.data.toList.take k) 0 1000 (by rw [List.length_take]; simp; omega)
        exact Nat.le_trans h1 (Nat.mul_le_mul (by rw [List.length_take]; simp; omega) (by decide))
      have HS : Hid (sumFrom 0 (s.data.toList.take (k + 1)) = sumFrom 0 (s.data.toList.take k) + (k + 1) * s[k].toNat) := by
        rw [take_byte s k hlt, sumFrom_append, List.length_take, Nat.zero_add, Nat.min_eq_left (by simp; omega)]
        exact rfl
      have hmul : (k + 1) * s[k].toNat ≤ 1000 * 255 := Nat.mul_le_mul (by omega) (by omega)
      generalize hm : sumFrom 0 (s.data.toList.take k) = m at *
      obtain ⟨pr, hpr⟩ : ∃ pr, pr = (k + 1) * s[k].toNat := ⟨_, rfl⟩
      rw [← hpr] at HS hmul
      clear hm
      have hp : ((k : Int) + 1) * (s[k].toNat : Int) = (pr : Int) := by rw [hpr]; simp
      have hv : wrap64 ((m : Int) + wrap64 (((k : Int) + 1) * wrap64 (s[k].toNat : Int))) = ((m + pr : Nat) : Int) := by
        have h1 : wrap64 (pr : Int) = (pr : Int) := by unfold wrap64; omega
        rw [w_id (by omega), hp, h1, w_add (by omega)]
      have HV := Lib.hid hv
      clear hpr hbb hp hv
      go_wp2
      rw [HV.out]
      go_round
      case rel => exact ⟨k + 1, by omega, by go_num, by rw [HS.out]⟩
      case measure => simp [intOf]; omega
    · go_wp2
      go_ret
      exact ⟨by rw [List.take_of_length_le (by simp; omega)]; rfl, rfl⟩
theorem weigh_any (s : ByteArray) (hs : s.size ≤ 1000) (w : World) :
    Calls Tryd.prog 61 #[.string s] w fun e w' => e = .returned (.int .i64 (weighL s.data.toList : Int)) ∧ NewMem w w' :=
  (weigh_eq s hs w).mono fun e w' ⟨he, hw⟩ => ⟨he, by rw [hw]; exact NewMem.refl _⟩
theorem byteCells_snoc (l : List UInt8) (b : UInt8) : Lib.byteCells (l ++ [b]) = Lib.byteCells l ++ [.int .u8 (b.toNat : Int)] := by simp [Lib.byteCells]
theorem info_byte : (Tryd.prog.info? 5).map (fun i => (i.zero, i.size, i.bytes)) = some (some (.int .u8 0), 1, 1) := by kernel_rfl
set_option maxHeartbeats 4000000 in
set_option maxRecDepth 100000 in
theorem put_any (xs : List UInt8) (v : Value) (base : Nat) (n k : Nat) (w : World) (h : w.ownsRow base 5 1 v xs.length (Lib.byteCells xs)) (hB : base ≤ w.heap.size) (hxs : xs.length ≤ 1000) (hk : k ≤ 7) (hn : n < 9223372036854775808) :
    Calls Tryd.prog 60 #[v, .int .i64 (n : Int), .int .i64 (k : Int)] w fun e w' => ∃ v', e = .returned v' ∧ w'.ownsRow base 5 1 v' (xs ++ beL k n).length (Lib.byteCells (xs ++ beL k n)) ∧ Below base w w' := by
  obtain ⟨i0, hi, hz0, hz1, hz2⟩ := info_parts info_byte
  have H := Lib.hid h
  clear h
  go_enter Tryd.func60, Tryd.ntmps60
  go_wp2
  go_loopw [0, 9] (fun v i wr => ∃ j : Nat, j ≤ k ∧ i = .int .i64 (j : Int) ∧ wr.ownsRow base 5 1 v (xs ++ (beL k n).take j).length (Lib.byteCells (xs ++ (beL k n).take j)) ∧ Below base w wr) (fun _ i _ => k - (intOf i).toNat)
  case atStart => exact ⟨0, Nat.zero_le _, rfl, by simpa using H.out, Below.refl _ _⟩
  case round =>
    obtain ⟨j, hj, rfl, hown, hb⟩ := hrel
    by_cases hlt : j < k
    · have hbj := beL_at k n j hlt
      obtain ⟨y, hy⟩ : ∃ y : UInt8, y = UInt8.ofNat (n / 256 ^ (k - 1 - j) % 256) := ⟨_, rfl⟩
      rw [← hy] at hbj
      have hsn : (beL k n).take (j + 1) = (beL k n).take j ++ [y] := by rw [List.take_add_one, hbj]; rfl
      have hsh : (n : Int) / 2 ^ (8 * (k - 1 - j)) % 256 = (y.toNat : Int) := by
        have e : (2 : Int) ^ (8 * (k - 1 - j)) = ((256 ^ (k - 1 - j) : Nat) : Int) := by
          rw [show (256 : Nat) = 2 ^ 8 by decide, ← Nat.pow_mul]; simp
        rw [hy, e]
        have : (UInt8.ofNat (n / 256 ^ (k - 1 - j) % 256)).toNat = n / 256 ^ (k - 1 - j) % 256 := by simp
        rw [this]
        simp
      have HSN := Lib.hid hsn
      clear hbj hsn hy
      generalize hl : (beL k n).take j = l at *
      have hll : l.length ≤ 7 := by rw [← hl, List.length_take]; omega
      have HB := Lib.hid hb
      have HL := Lib.hid hl
      clear hb hl
      go_wp2_with (at_builtin; refine wpList_append_own _ rfl _ _ 80 rfl base 5 i0 (.int .u8 0) 1 1 Tryd.underlying80 hi hz0 hz1 hz2 rfl (by decide) _ _ _ rfl (hown.alloc _) ⟨wr.heap.size, 0, none⟩ 1 1 [.int .u8 (y.toNat : Int)] rfl rfl ?c1 ?c2 ?c3 ?c4 ?c5 ?_)
      case c1 =>
        intro m u hu
        match m, hu with
        | 0, hu => simp at hu; subst hu; simp [Addr.add]
      case c2 => intro u hu; simp at hu; subst hu; rfl
      case c3 => unfold maxLen; rw [List.length_append]; omega
      case c4 => rw [List.length_append]; omega
      case c5 => have := HB.out.size; simp; omega
      intro v' w2 hown' hgrow _
      have hb2 : Below base w w2 := (HB.out.alloc (by have := HB.out.size; omega) _).grown hgrow (by have := HB.out.size; simp; omega) (fun k hk => (hown.lt k hk).1)
      have hown2 : w2.ownsRow base 5 1 v' (xs ++ (beL k n).take (j + 1)).length (Lib.byteCells (xs ++ (beL k n).take (j + 1))) := by
        rw [HSN.out, ← List.append_assoc, byteCells_snoc, List.length_append, List.length_append, List.length_singleton]
        exact hown'
      have HB2 := Lib.hid hb2
      have HO2 := Lib.hid hown2
      clear hb2 hown2 hown' hgrow hown
      go_wp2
      go_roundw
      case rel => exact ⟨j + 1, by omega, by go_num, HO2.out, HB2.out⟩
      case measure => simp [intOf]; omega
    · have hjk : j = k := by omega
      rw [hjk, List.take_of_length_le (by rw [beL_len]; exact Nat.le_refl _)] at hown
      have HO := Lib.hid hown
      have HB := Lib.hid hb
      clear hown hb
      go_wp2
      go_ret
      exact ⟨_, rfl, HO.out, HB.out⟩
end Go.Proofs.YteljihpheffjnaaDoor.Tape
/- tape.says, walked. -/
namespace Go.Proofs.YteljihpheffjnaaDoor.Tape
open Go.RowKit Go.Proofs.YteljihpheffjnaaDoor.Ord Go.Proofs.YteljihpheffjnaaDoorW.PrintWords Go.Proofs.YteljihpheffjnaaDoor.Base
set_option linter.unusedVariables false
set_option linter.unusedSimpArgs false
attribute [local irreducible] OpGives
attribute [local go_sem] rdl_const rdl_func rdl_global rdl_nil rdl_cons

/-- A sector in memory, and as a value. -/
def secCs : Option Sec → Array Value
  | none => #[.int .i64 0, .int .i64 0, .int .i64 0, .bool false, .string (⟨#[]⟩ : ByteArray)]
  | some x => #[.int .i64 (x.life : Int), .int .i64 (x.record : Int), .int .i64 (x.part : Int), .bool x.last, .string ⟨x.s.toArray⟩]
def zSec : Obj := .cells #[.int .i64 0, .int .i64 0, .int .i64 0, .bool false, .string (⟨#[]⟩ : ByteArray)] 67
theorem five_put {W : World} {g : Nat} {ty : TypeId} {a b c d e : Value} (h : W.heap[g]? = some (.cells #[a, b, c, d, e] ty (0, 0))) (a' b' c' d' e' : Value) :
    (((((W.setCell ⟨g, 0, none⟩ a').setCell ⟨g, 1, none⟩ b').setCell ⟨g, 2, none⟩ c').setCell ⟨g, 3, none⟩ d').setCell ⟨g, 4, none⟩ e').heap[g]? = some (.cells #[a', b', c', d', e'] ty (0, 0)) :=
  blk_put (cs := #[a', b', c', d', e]) (blk_put (cs := #[a', b', c', d, e]) (blk_put (cs := #[a', b', c, d, e]) (blk_put (cs := #[a', b, c, d, e]) (blk_put (cs := #[a, b, c, d, e]) h 0 _ rfl) 1 _ rfl) 2 _ rfl) 3 _ rfl) 4 _ rfl
theorem five_below {B : Nat} {w W : World} {g : Nat} (h : Below B w W) (hB : B ≤ g) (a b c d e : Value) : Below B w (((((W.setCell ⟨g, 0, none⟩ a).setCell ⟨g, 1, none⟩ b).setCell ⟨g, 2, none⟩ c).setCell ⟨g, 3, none⟩ d).setCell ⟨g, 4, none⟩ e) :=
  ((((h.setCell (p := ⟨g, 0, none⟩) hB _).setCell (p := ⟨g, 1, none⟩) hB _).setCell (p := ⟨g, 2, none⟩) hB _).setCell (p := ⟨g, 3, none⟩) hB _).setCell (p := ⟨g, 4, none⟩) hB _
theorem results_says (tmps : Array Value) (W : World) (g : Nat) (a0 a1 a2 a3 a4 b : Value) (h2 : tmps.getD 2 undef = .pointer (some ⟨g, 0, none⟩)) (h3 : tmps.getD 3 undef = b) (hg : W.heap[g]? = some (.cells #[a0, a1, a2, a3, a4] 67 (0, 0))) :
    (results Tryd.f73 tmps).run Tryd.prog W = .ok (.tuple #[.agg #[a0, a1, a2, a3, a4], b]) W := by
  have h2' : tmps[2]?.getD undef = .pointer (some ⟨g, 0, none⟩) := by simpa using h2
  have h3' : tmps[3]?.getD undef = b := by simpa using h3
  have k0 : W.cell? ⟨g, 0, none⟩ = some a0 := by rw [Lib.cell_of_heap hg]; rfl
  have k1 : W.cell? ⟨g, 1, none⟩ = some a1 := by rw [Lib.cell_of_heap hg]; rfl
  have k2 : W.cell? ⟨g, 2, none⟩ = some a2 := by rw [Lib.cell_of_heap hg]; rfl
  have k3 : W.cell? ⟨g, 3, none⟩ = some a3 := by rw [Lib.cell_of_heap hg]; rfl
  have k4 : W.cell? ⟨g, 4, none⟩ = some a4 := by rw [Lib.cell_of_heap hg]; rfl
  simp [results, Tryd.results73, h2', h3', asAddr, k0, k1, k2, k3, k4, go_sem]
theorem dropWhile_nil {l : List UInt8} {c : UInt8} : l.dropWhile (· == c) = [] ↔ ∀ b ∈ l, b = c := by
  induction l with
  | nil => simp
  | cons x xs ih =>
    rw [List.dropWhile_cons]
    by_cases hx : x = c
    · rw [if_pos (by simpa using hx), ih]; simp [hx]
    · rw [if_neg (by simpa using hx)]; simp [hx]
theorem trimB_nil (l : List UInt8) : Lib.trimB l 0 = [] ↔ (l.any fun b => b != 0) = false := by
  unfold Lib.trimB Lib.trimLeftB Lib.trimRightB
  rw [dropWhile_nil, List.any_eq_false]
  constructor
  · intro h b hb
    by_cases hz : b = 0
    · simp [hz]
    · exfalso
      have hne : l.reverse.dropWhile (· == (0 : UInt8)) ≠ [] := fun e => hz (dropWhile_nil.1 e b (List.mem_reverse.2 hb))
      obtain ⟨x, xs, hx⟩ := List.exists_cons_of_ne_nil hne
      have h0 := List.head_dropWhile_not (p := (· == (0 : UInt8))) (l := l.reverse) hne
      have hm : x ∈ (l.reverse.dropWhile (· == (0 : UInt8))).reverse := by rw [hx]; simp
      have := h x hm
      simp only [hx, List.head_cons] at h0
      rw [this] at h0
      simp at h0
  · intro h b hb
    have hm : b ∈ l := by
      have := (List.dropWhile_sublist (p := (· == (0 : UInt8))) (l := l.reverse)).mem (List.mem_reverse.1 hb)
      exact List.mem_reverse.1 this
    have := h b hm
    simpa using this
theorem and128 (x : Nat) (h : x < 256) : (bits .and .u8 (x : Int) 128 != 0) = decide (128 ≤ x) := by
  have : ∀ x : Fin 256, (bits .and .u8 ((x : Nat) : Int) 128 != 0) = decide (128 ≤ (x : Nat)) := by decide +kernel
  exact this ⟨x, h⟩
theorem andnot128 (x : Nat) (h : x < 256) : bits .andNot .i64 (x : Int) 128 = ((x % 128 : Nat) : Int) := by
  have : ∀ x : Fin 256, bits .andNot .i64 ((x : Nat) : Int) 128 = (((x : Nat) % 128 : Nat) : Int) := by decide +kernel
  exact this ⟨x, h⟩
theorem cut_list (s : ByteArray) (a b : Nat) : (s.extract a b).data.toList = (s.data.toList.drop a).take (b - a) := Lib.extract_data s a b
theorem number_cut (s : ByteArray) (hs : s.size = 64) (a b : Nat) (hab : b ≤ a + 6) (w : World) :
    Calls Tryd.prog 81 #[.string (s.extract a b)] w fun e w' => e = .returned (.int .i64 (numL ((s.data.toList.drop a).take (b - a)) : Int)) ∧ w' = w := by
  have h := number_any (s.extract a b) (by rw [Lib.size_eq, cut_list, List.length_take]; omega) w
  rw [cut_list] at h
  exact h
set_option maxHeartbeats 8000000 in
set_option maxRecDepth 100000 in
theorem says_any (s : ByteArray) (hs : s.size = 64) (w : World) :
    Calls Tryd.prog 73 #[.string s] w fun e w' => e = .returned (.tuple #[.agg (secCs (saysN s.data.toList)), .bool (saysN s.data.toList).isSome]) ∧ NewMem w w' := by
  have hl : s.data.toList.length = 64 := by rw [← Lib.size_eq]; exact hs
  have hbyte : s[10]'(by omega) = s.data.toList.getD 10 0 := by
    rw [List.getD_eq_getElem?_getD, List.getElem?_eq_getElem (by omega)]; rfl
  have h10 : (s[10]'(by omega)).toNat = cntL s.data.toList := by rw [hbyte]; rfl
  have hc : cntL s.data.toList < 256 := UInt8.toNat_lt _
  have hn := andnot128 _ hc
  have ha := and128 _ hc
  obtain ⟨W1, hW1⟩ : ∃ W1, W1 = w.alloc (.cells #[.int .i64 0, .int .i64 0, .int .i64 0, .bool false, .string (⟨#[]⟩ : ByteArray)] 67) := ⟨_, rfl⟩
  have N1 := number_cut s hs 0 4 (by omega)
  have N2 := number_cut s hs 4 8 (by omega)
  have N3 := number_cut s hs 8 10 (by omega)
  have HN1 := Lib.hid N1
  have HN2 := Lib.hid N2
  have HN3 := Lib.hid N3
  generalize hcc : cntL s.data.toList = c at *
  have HCC := Lib.hid hcc
  have HW1 := Lib.hid hW1
  clear N1 N2 N3 hbyte hW1 hcc hl
  go_enter Tryd.func73, Tryd.ntmps73
  go_wp2_with fail
  rw [← HW1.out]
  refine' wp_region_factsM (S := (fun L W => W = if L 14 then W1.drew.alloc zSec else W1.drew)) (fun _ _ _ => True) [eqM _, eqM (.string (s.extract 0 4)), eqM (.int .i64 (numL ((s.data.toList.drop 0).take (4 - 0)) : Int)), eqM _, eqM (.string (s.extract 4 8)), eqM (.int .i64 (numL ((s.data.toList.drop 4).take (8 - 4)) : Int)), eqM _, eqM (.string (s.extract 8 10)), eqM (.int .i64 (numL ((s.data.toList.drop 8).take (10 - 8)) : Int)), eqM _, eqM (.int .u8 (c : Int)), eqM _, eqM (.bool (decide (128 ≤ c))), eqM (.agg #[.int .i64 (numL ((s.data.toList.drop 0).take (4 - 0)) : Int), .int .i64 (numL ((s.data.toList.drop 4).take (8 - 4)) : Int), .int .i64 (numL ((s.data.toList.drop 8).take (10 - 8)) : Int), .bool (decide (128 ≤ c)), .string (⟨#[]⟩ : ByteArray)]), eqM (.pointer (some ⟨W1.heap.size, 0, none⟩))] (by kernel_rfl) (by kernel_rfl) ?hst ?h0 (Ord.stepsM_cons ?s0 (Ord.stepsM_cons ?s1 (Ord.stepsM_cons ?s2 (Ord.stepsM_cons ?s3 (Ord.stepsM_cons ?s4 (Ord.stepsM_cons ?s5 (Ord.stepsM_cons ?s6 (Ord.stepsM_cons ?s7 (Ord.stepsM_cons ?s8 (Ord.stepsM_cons ?s9 (Ord.stepsM_cons ?s10 (Ord.stepsM_cons ?s11 (Ord.stepsM_cons ?s12 (Ord.stepsM_cons ?s13 (Ord.stepsM_cons ?s14 (Ord.stepsM_nil)))))))))))))))) ?fin
  case s0 =>
    intro g W L hL hSW hd
    try simp only [Nat.zero_add, Nat.reduceAdd] at hd ⊢
    with_reducible refine OpGives.pre_reads [] 69 ?_ ?_ ?_
    · rfl
    · kernel_rfl
    simp only [List.map_cons, List.map_nil]
    refine OpGives.val (w' := W) ?_ ⟨trivial, rfl, hSW⟩
    go_simp
    try with_reducible rfl
  case s1 =>
    intro g W L hL hSW hd
    try simp only [Nat.zero_add, Nat.reduceAdd] at hd ⊢
    have h0 : g 0 = _ := hd 0 (by decide) (by kernel_rfl)
    with_reducible refine OpGives.pre_reads [(14, 0)] 69 ?_ ?_ ?_
    · rfl
    · kernel_rfl
    simp only [List.map_cons, List.map_nil]
    refine OpGives.val (w' := W) ?_ ⟨trivial, rfl, hSW⟩
    go_simp
    try with_reducible rfl
  case s2 =>
    intro g W L hL hSW hd
    try simp only [Nat.zero_add, Nat.reduceAdd] at hd ⊢
    have h1 : g 1 = _ := hd 1 (by decide) (by kernel_rfl)
    with_reducible refine OpGives.pre_reads [(15, 1)] 69 ?_ ?_ ?_
    · rfl
    · kernel_rfl
    simp only [List.map_cons, List.map_nil]
    refine OpGives.call (f := 81) (args := #[.string (s.extract 0 4)]) (w' := W) (by go_simp) ((HN1.out W).mono fun e W' ⟨he, hb⟩ => ⟨_, he, trivial, rfl, by rw [hb]; exact hSW⟩)
  case s3 =>
    intro g W L hL hSW hd
    try simp only [Nat.zero_add, Nat.reduceAdd] at hd ⊢
    with_reducible refine OpGives.pre_reads [] 69 ?_ ?_ ?_
    · rfl
    · kernel_rfl
    simp only [List.map_cons, List.map_nil]
    refine OpGives.val (w' := W) ?_ ⟨trivial, rfl, hSW⟩
    go_simp
    try with_reducible rfl
  case s4 =>
    intro g W L hL hSW hd
    try simp only [Nat.zero_add, Nat.reduceAdd] at hd ⊢
    have h3 : g 3 = _ := hd 3 (by decide) (by kernel_rfl)
    with_reducible refine OpGives.pre_reads [(17, 3)] 69 ?_ ?_ ?_
    · rfl
    · kernel_rfl
    simp only [List.map_cons, List.map_nil]
    refine OpGives.val (w' := W) ?_ ⟨trivial, rfl, hSW⟩
    go_simp
    try with_reducible rfl
  case s5 =>
    intro g W L hL hSW hd
    try simp only [Nat.zero_add, Nat.reduceAdd] at hd ⊢
    have h4 : g 4 = _ := hd 4 (by decide) (by kernel_rfl)
    with_reducible refine OpGives.pre_reads [(18, 4)] 69 ?_ ?_ ?_
    · rfl
    · kernel_rfl
    simp only [List.map_cons, List.map_nil]
    refine OpGives.call (f := 81) (args := #[.string (s.extract 4 8)]) (w' := W) (by go_simp) ((HN2.out W).mono fun e W' ⟨he, hb⟩ => ⟨_, he, trivial, rfl, by rw [hb]; exact hSW⟩)
  case s6 =>
    intro g W L hL hSW hd
    try simp only [Nat.zero_add, Nat.reduceAdd] at hd ⊢
    with_reducible refine OpGives.pre_reads [] 69 ?_ ?_ ?_
    · rfl
    · kernel_rfl
    simp only [List.map_cons, List.map_nil]
    refine OpGives.val (w' := W) ?_ ⟨trivial, rfl, hSW⟩
    go_simp
    try with_reducible rfl
  case s7 =>
    intro g W L hL hSW hd
    try simp only [Nat.zero_add, Nat.reduceAdd] at hd ⊢
    have h6 : g 6 = _ := hd 6 (by decide) (by kernel_rfl)
    with_reducible refine OpGives.pre_reads [(20, 6)] 69 ?_ ?_ ?_
    · rfl
    · kernel_rfl
    simp only [List.map_cons, List.map_nil]
    refine OpGives.val (w' := W) ?_ ⟨trivial, rfl, hSW⟩
    go_simp
    try with_reducible rfl
  case s8 =>
    intro g W L hL hSW hd
    try simp only [Nat.zero_add, Nat.reduceAdd] at hd ⊢
    have h7 : g 7 = _ := hd 7 (by decide) (by kernel_rfl)
    with_reducible refine OpGives.pre_reads [(21, 7)] 69 ?_ ?_ ?_
    · rfl
    · kernel_rfl
    simp only [List.map_cons, List.map_nil]
    refine OpGives.call (f := 81) (args := #[.string (s.extract 8 10)]) (w' := W) (by go_simp) ((HN3.out W).mono fun e W' ⟨he, hb⟩ => ⟨_, he, trivial, rfl, by rw [hb]; exact hSW⟩)
  case s9 =>
    intro g W L hL hSW hd
    try simp only [Nat.zero_add, Nat.reduceAdd] at hd ⊢
    with_reducible refine OpGives.pre_reads [] 69 ?_ ?_ ?_
    · rfl
    · kernel_rfl
    simp only [List.map_cons, List.map_nil]
    refine OpGives.val (w' := W) ?_ ⟨trivial, rfl, hSW⟩
    go_simp
    try with_reducible rfl
  case s10 =>
    intro g W L hL hSW hd
    try simp only [Nat.zero_add, Nat.reduceAdd] at hd ⊢
    have h9 : g 9 = _ := hd 9 (by decide) (by kernel_rfl)
    with_reducible refine OpGives.pre_reads [(23, 9)] 69 ?_ ?_ ?_
    · rfl
    · kernel_rfl
    simp only [List.map_cons, List.map_nil]
    refine OpGives.val (w' := W) ?_ ⟨trivial, rfl, hSW⟩
    go_simp
    try with_reducible rfl
  case s11 =>
    intro g W L hL hSW hd
    try simp only [Nat.zero_add, Nat.reduceAdd] at hd ⊢
    have h10 : g 10 = _ := hd 10 (by decide) (by kernel_rfl)
    with_reducible refine OpGives.pre_reads [(24, 10)] 69 ?_ ?_ ?_
    · rfl
    · kernel_rfl
    simp only [List.map_cons, List.map_nil]
    refine OpGives.val (w' := W) ?_ ⟨trivial, rfl, hSW⟩
    go_simp
    try with_reducible rfl
  case s12 =>
    intro g W L hL hSW hd
    try simp only [Nat.zero_add, Nat.reduceAdd] at hd ⊢
    have h11 : g 11 = _ := hd 11 (by decide) (by kernel_rfl)
    with_reducible refine OpGives.pre_reads [(25, 11)] 69 ?_ ?_ ?_
    · rfl
    · kernel_rfl
    simp only [List.map_cons, List.map_nil]
    refine OpGives.val (w' := W) ?_ ⟨trivial, rfl, hSW⟩
    go_simp
    try with_reducible rfl
  case s13 =>
    intro g W L hL hSW hd
    try simp only [Nat.zero_add, Nat.reduceAdd] at hd ⊢
    have h2 : g 2 = _ := hd 2 (by decide) (by kernel_rfl)
    have h5 : g 5 = _ := hd 5 (by decide) (by kernel_rfl)
    have h8 : g 8 = _ := hd 8 (by decide) (by kernel_rfl)
    have h12 : g 12 = _ := hd 12 (by decide) (by kernel_rfl)
    with_reducible refine OpGives.pre_reads [(16, 2), (19, 5), (22, 8), (26, 12)] 69 ?_ ?_ ?_
    · rfl
    · kernel_rfl
    simp only [List.map_cons, List.map_nil]
    refine OpGives.val (w' := W) ?_ ⟨trivial, rfl, hSW⟩
    go_simp
    try with_reducible rfl
  case s14 =>
    intro g W L hL hSW hd
    try simp only [Nat.zero_add, Nat.reduceAdd] at hd ⊢
    with_reducible refine OpGives.pre_reads [] 69 ?_ ?_ ?_
    · rfl
    · kernel_rfl
    simp only [List.map_cons, List.map_nil]
    rw [hL, if_neg (by decide)] at hSW; subst hSW; refine OpGives.val (v := .pointer (some ⟨W1.heap.size, 0, none⟩)) (w' := W1.drew.alloc zSec) ?_ ⟨trivial, rfl, by simp⟩; unfold zSec; go_simp
  case hst =>
    refine fun i j v w w' _ h _ => st_of (R := fun _ _ => True) ?_ i v w w' h trivial
    repeat' first
      | exact trivial
      | with_reducible refine StL.eq ?_
  case h0 => rfl
  case fin =>
    intro v W L hL hSW hf
    have h13 : v 13 = _ := hf 13 (Nat.lt_of_lt_of_eq (by decide : 13 < 15) rfl)
    have h14 : v 14 = _ := hf 14 (Nat.lt_of_lt_of_eq (by decide : 14 < 15) rfl)
    clear hf
    rw [hL 14 (Nat.lt_of_lt_of_eq (by decide : 14 < 15) rfl), if_pos rfl] at hSW
    subst hSW
    generalize hF : Ord.pre _ _ v _ = F
    rw [Ord.pre_lit [some 14, some 15, some 16, some 17, some 18, some 19, some 20, some 21, some 22, some 23, some 24, some 25, some 26, some 27, some 5]
      (by kernel_rfl)] at hF
    simp only [Ord.puts, Nat.zero_add, Nat.reduceAdd] at hF
    subst hF
    rw [h13, h14]
    clear h13 h14 hL
    unfold zSec
    refine any_one (i := 15) (by kernel_rfl) ?_
    refine wpOp_skip (w' := W1.drew.alloc (.cells #[.int .i64 (numL ((s.data.toList.drop 0).take (4 - 0)) : Int), .int .i64 (numL ((s.data.toList.drop 4).take (8 - 4)) : Int), .int .i64 (numL ((s.data.toList.drop 8).take (10 - 8)) : Int), .bool (decide (128 ≤ c)), .string (⟨#[]⟩ : ByteArray)] 67)) rfl rfl (by go_simp) ?_
    refine wpAny_done (by kernel_rfl) ?_ _
    try simp only [List.getElem_toArray, List.getElem_cons_succ, List.getElem_cons_zero]
    go_frame
    obtain ⟨L0, hL0⟩ : ∃ L0, L0 = numL ((s.data.toList.drop 0).take (4 - 0)) := ⟨_, rfl⟩
    obtain ⟨R0, hR0⟩ : ∃ R0, R0 = numL ((s.data.toList.drop 4).take (8 - 4)) := ⟨_, rfl⟩
    obtain ⟨P0, hP0⟩ : ∃ P0, P0 = numL ((s.data.toList.drop 8).take (10 - 8)) := ⟨_, rfl⟩
    obtain ⟨bl, hbl⟩ : ∃ bl, bl = decide (128 ≤ c) := ⟨_, rfl⟩
    rw [← hL0, ← hR0, ← hP0, ← hbl]
    obtain ⟨X, hX⟩ : ∃ X, X = W1.drew.alloc (.cells #[.int .i64 (L0 : Int), .int .i64 (R0 : Int), .int .i64 (P0 : Int), .bool bl, .string (⟨#[]⟩ : ByteArray)] 67) := ⟨_, rfl⟩
    rw [← hX]
    have hg : X.heap[W1.heap.size]? = some (.cells #[.int .i64 (L0 : Int), .int .i64 (R0 : Int), .int .i64 (P0 : Int), .bool bl, .string (⟨#[]⟩ : ByteArray)] 67 (0, 0)) := by rw [hX]; exact heap_alloc_last W1.drew _
    have hn0 : NewMem w X := by rw [hX, HW1.out]; exact ((NewMem.alloc w _).trans (below_drewN' (n := 1) (Below.refl _ _))).trans (NewMem.alloc _ _)
    have hr : X.heap[w.heap.size]? = some (.cells #[.int .i64 0, .int .i64 0, .int .i64 0, .bool false, .string (⟨#[]⟩ : ByteArray)] 67 (0, 0)) := by
      rw [hX, Lib.alloc_old _ _ _ (by rw [HW1.out]; simp [World.drew])]
      show W1.heap[w.heap.size]? = _
      rw [HW1.out]; exact heap_alloc_last w _
    have hne : w.heap.size < W1.heap.size := by rw [HW1.out]; simp
    have HX := Lib.hid hX
    have HG := Lib.hid hg
    have HN0 := Lib.hid hn0
    have HR := Lib.hid hr
    have HNE := Lib.hid hne
    have HLRP := Lib.hid (And.intro hL0 (And.intro hR0 hP0))
    have HBL := Lib.hid hbl
    have HNN := Lib.hid hn
    have HAA := Lib.hid ha
    have HSS := Lib.hid hs
    clear hX hg hn0 hr hne hL0 hR0 hP0 hbl hn ha HX HN1 HN2 HN3
    have k0 : X.cell? ⟨W1.heap.size, 0, none⟩ = some (.int .i64 (L0 : Int)) := by rw [Lib.cell_of_heap HG.out]; rfl
    have k3 : X.cell? ⟨W1.heap.size, 3, none⟩ = some (.bool bl) := by rw [Lib.cell_of_heap HG.out]; rfl
    go_upto_region 5 with (fail)
    go_cut [28] (fun b wc => b = .bool (decide (L0 = 0 ∨ 51 < c % 128 ∨ (c < 128 ∧ c % 128 < 51))) ∧ wc = X)
    case first =>
      by_cases h1 : L0 = 0
      · have e := Lib.hid (show decide (L0 = 0 ∨ 51 < c % 128 ∨ (c < 128 ∧ c % 128 < 51)) = true from by simp [h1])
        have g1 : ((L0 : Int) == 0) = true := by rw [beq_iff_eq]; omega
        clear h1
        go_wp2_with fail
        go_meet
        case rel => first | (refine ⟨?_, rfl⟩; rw [e.out]; done) | (refine ⟨?_, rfl⟩; rw [e.out]; simp; omega)
      · have g1 : ((L0 : Int) == 0) = false := by rw [beq_eq_false_iff_ne]; omega
        by_cases h2 : 51 < c % 128
        · have e := Lib.hid (show decide (L0 = 0 ∨ 51 < c % 128 ∨ (c < 128 ∧ c % 128 < 51)) = true from by simp [h2])
          have g2 : (51 : Int) < (c : Int) % 128 := by omega
          clear h1 h2
          go_wp2_with fail
          go_meet
          case rel => first | (refine ⟨?_, rfl⟩; rw [e.out]; done) | (refine ⟨?_, rfl⟩; rw [e.out]; simp; omega)
        · have g2 : (c : Int) % 128 ≤ 51 := by omega
          cases hb2 : bl with
          | true =>
            rw [hb2] at k3
            have h128 : 128 ≤ c := of_decide_eq_true (by rw [← HBL.out, hb2])
            have e := Lib.hid (show decide (L0 = 0 ∨ 51 < c % 128 ∨ (c < 128 ∧ c % 128 < 51)) = false from by simp [h1]; omega)
            clear h1 h2 hb2 h128
            go_wp2_with fail
            go_meet
            case rel => first | (refine ⟨?_, rfl⟩; rw [e.out]; done) | (refine ⟨?_, rfl⟩; rw [e.out]; simp; omega)
          | false =>
            rw [hb2] at k3
            have h128 : ¬ 128 ≤ c := of_decide_eq_false (by rw [← HBL.out, hb2])
            by_cases h3 : c % 128 < 51
            · have e := Lib.hid (show decide (L0 = 0 ∨ 51 < c % 128 ∨ (c < 128 ∧ c % 128 < 51)) = true from by simp; omega)
              have g3 : (c : Int) % 128 < 51 := by omega
              clear h1 h2 hb2 h128 h3
              go_wp2_with fail
              go_meet
              case rel => first | (refine ⟨?_, rfl⟩; rw [e.out]; done) | (refine ⟨?_, rfl⟩; rw [e.out]; simp; omega)
            · have e := Lib.hid (show decide (L0 = 0 ∨ 51 < c % 128 ∨ (c < 128 ∧ c % 128 < 51)) = false from by simp [h1]; omega)
              have g3 : ¬ (c : Int) % 128 < 51 := by omega
              clear h1 h2 hb2 h128 h3
              go_wp2_with fail
              go_meet
              case rel => first | (refine ⟨?_, rfl⟩; rw [e.out]; done) | (refine ⟨?_, rfl⟩; rw [e.out]; simp; omega)
    case rest =>
      obtain ⟨rfl, rfl⟩ := hcut
      obtain ⟨hL0, hR0, hP0⟩ := HLRP.out
      obtain ⟨ll, hll⟩ : ∃ ll, ll = s.data.toList := ⟨_, rfl⟩
      have hlen : ll.length = 64 := by rw [hll, ← Lib.size_eq]; exact HSS.out
      have e4 : numL (ll.take 4) = L0 := by rw [hL0, hll]; rfl
      have f0 := Lib.frozen_of_heap HR.out 0
      have f1 := Lib.frozen_of_heap HR.out 1
      have f2 := Lib.frozen_of_heap HR.out 2
      have f3 := Lib.frozen_of_heap HR.out 3
      have f4 := Lib.frozen_of_heap HR.out 4
      have z0 : wc.cell? ⟨w.heap.size, 0, none⟩ = some (.int .i64 0) := by rw [Lib.cell_of_heap HR.out]; rfl
      have z1 : wc.cell? ⟨w.heap.size, 1, none⟩ = some (.int .i64 0) := by rw [Lib.cell_of_heap HR.out]; rfl
      have z2 : wc.cell? ⟨w.heap.size, 2, none⟩ = some (.int .i64 0) := by rw [Lib.cell_of_heap HR.out]; rfl
      have z3 : wc.cell? ⟨w.heap.size, 3, none⟩ = some (.bool false) := by rw [Lib.cell_of_heap HR.out]; rfl
      have z4 : wc.cell? ⟨w.heap.size, 4, none⟩ = some (.string (⟨#[]⟩ : ByteArray)) := by rw [Lib.cell_of_heap HR.out]; rfl
      by_cases hbad : L0 = 0 ∨ 51 < c % 128 ∨ (c < 128 ∧ c % 128 < 51)
      · have hsn : saysN ll = none := by unfold saysN; rw [if_pos (by rw [e4, hll, HCC.out]; exact hbad)]
        rw [decide_eq_true hbad]
        rw [hll] at hsn
        have HSN := Lib.hid hsn
        clear hL0 hR0 hP0 hll hlen e4 hsn hbad h10
        go_wp2_with fail
        refine bodyPost_ret (results_says _ _ w.heap.size (.int .i64 0) (.int .i64 0) (.int .i64 0) (.bool false) (.string (⟨#[]⟩ : ByteArray)) (.bool false) rfl rfl (five_put HR.out _ _ _ _ _)) rfl ?_
        rw [HSN.out]
        exact ⟨rfl, five_below HN0.out (Nat.le_refl _) _ _ _ _ _⟩
      · have hc51 : c % 128 ≤ 51 := by omega
        have hdt : (ll.take 62).drop (11 + c % 128) = (ll.drop (11 + c % 128)).take (62 - (11 + c % 128)) := by rw [List.drop_take]
        obtain ⟨n, hnn⟩ : ∃ n, n = c % 128 := ⟨_, rfl⟩
        have hz1 : (s.extract (11 + n) 62).data.toList = (ll.drop (11 + n)).take (62 - (11 + n)) := by rw [cut_list, hll]
        have htr : ∀ W, Calls Tryd.prog 82 #[.string (s.extract (11 + n) 62), .string ⟨#[0]⟩] W fun e w' => e = .returned (.string ⟨(Lib.trimB ((ll.drop (11 + n)).take (62 - (11 + n))) 0).toArray⟩) ∧ ∃ m, w' = W.drewN m := fun W => by
          have h := Tryd.strings_Trim_one (s.extract (11 + n) 62) 0 (by decide) W (by rw [Lib.size_eq, hz1, List.length_take, List.length_drop, hlen]; omega)
          rw [hz1] at h
          exact h.mono fun e w' ⟨he, hw⟩ => ⟨he, hw.elim (fun x => ⟨0, x⟩) (fun x => ⟨1, x⟩)⟩
        have hwg : ∀ W, Calls Tryd.prog 61 #[.string (s.extract 0 62)] W fun e w' => e = .returned (.int .i64 (weighL (ll.take 62) : Int)) ∧ ∃ m, w' = W.drewN m := fun W => by
          have h1 : (s.extract 0 62).data.toList = ll.take 62 := by rw [cut_list, hll]; rfl
          have hsz : (s.extract 0 62).size ≤ 1000 := by rw [Lib.size_eq, h1, List.length_take, hlen]; omega
          have h2 := weigh_eq (s.extract 0 62) hsz W
          rw [h1] at h2
          exact h2.mono fun e w' ⟨he, hw⟩ => ⟨he, 0, hw⟩
        have hnm : ∀ W, Calls Tryd.prog 81 #[.string (s.extract 62 64)] W fun e w' => e = .returned (.int .i64 (numL (ll.drop 62) : Int)) ∧ w' = W := fun W => by
          have h := number_cut s HSS.out 62 64 (by omega) W
          rw [← hll, List.take_of_length_le (by rw [List.length_drop, hlen]; omega)] at h
          exact h
        obtain ⟨q, hq⟩ : ∃ q : ByteArray, q = ⟨(Lib.trimB ((ll.drop (11 + n)).take (62 - (11 + n))) 0).toArray⟩ := ⟨_, rfl⟩
        have hql : q.toList = Lib.trimB ((ll.drop (11 + n)).take (62 - (11 + n))) 0 := by rw [Lib.toList_data, hq]
        simp only [← hq] at htr
        rw [decide_eq_false hbad]
        have hcn : (c : Int) % 128 = (n : Int) := by omega
        rw [hcn]
        have HT := Lib.hid htr
        have HWG := Lib.hid hwg
        have HNM := Lib.hid hnm
        have hn51 : n ≤ 51 := by omega
        by_cases hnz : ((ll.drop (11 + n)).take (62 - (11 + n))).any (fun b => b != 0) = true
        · have q1 : ¬ q.toList = [] := by rw [hql]; intro h; rw [trimB_nil] at h; rw [h] at hnz; cases hnz
          have q2 : q.toList.isEmpty = false := by rw [List.isEmpty_eq_false_iff]; exact q1
          have hsn : saysN s.data.toList = none := by
            rw [← hll]; unfold saysN
            have hcc : cntL ll = c := by rw [hll]; exact HCC.out
            rw [hcc, e4, if_neg hbad, hdt, ← hnn, if_pos (.inl hnz)]
          have HSN := Lib.hid hsn
          clear hL0 hR0 hP0 hll hlen e4 hsn hbad h10 hdt hnn hz1 htr hwg hnm hq hql hcn hnz hc51
          go_wp2_with fail
          go_quiet ((first | (go_at_call 82; exact Calls.quiet_of (HT.out _)) | (go_at_call 61; exact Calls.quiet_of (HWG.out _)) | (go_at_call 81; exact Calls.quiet_of_same (HNM.out _))))
          go_wp2_with fail
          have HRn : (wc.drewN nq).heap[w.heap.size]? = _ := HR.out
          refine bodyPost_ret (results_says _ _ w.heap.size (.int .i64 0) (.int .i64 0) (.int .i64 0) (.bool false) (.string (⟨#[]⟩ : ByteArray)) (.bool false) rfl rfl (five_put HRn _ _ _ _ _)) rfl ?_
          rw [HSN.out]
          exact ⟨rfl, five_below (HN0.out.trans (below_drewN' (Below.refl _ _))) (Nat.le_refl _) _ _ _ _ _⟩
        · have hza : ((ll.drop (11 + n)).take (62 - (11 + n))).any (fun b => b != 0) = false := by simpa using hnz
          have q1 : q.toList = [] := by rw [hql]; exact (trimB_nil _).2 hza
          have q2 : (!q.toList.isEmpty) = false := by rw [q1]; rfl
          have hcc : cntL ll = c := by rw [hll]; exact HCC.out
          by_cases hw : weighL (ll.take 62) = numL (ll.drop 62)
          · have hsn : saysN s.data.toList = some ⟨L0, R0, P0, bl, (ll.drop 11).take n⟩ := by
              rw [← hll]; unfold saysN
              have hR : numL ((ll.drop 4).take 4) = R0 := by rw [hR0, hll]
              have hP : numL ((ll.drop 8).take 2) = P0 := by rw [hP0, hll]
              rw [hcc, e4, if_neg hbad, hdt, ← hnn, if_neg (by rintro (h | h); exact hnz h; exact h hw), hR, hP, HBL.out]
            have hxs : s.extract 11 (11 + n) = ⟨((ll.drop 11).take n).toArray⟩ := by rw [Lib.extract_eq, hll, show 11 + n - 11 = n by omega]
            have g1 : ((weighL (ll.take 62) : Int) != (numL (ll.drop 62) : Int)) = false := by rw [hw]; simp
            have HSN := Lib.hid hsn
            have HXS := Lib.hid hxs
            have b0 := HG.out
            have HNE2 := HNE.out
            clear hL0 hR0 hP0 hll hlen e4 hsn hbad h10 hdt hnn hz1 htr hwg hnm hq hql hcn hnz hc51 hza hcc hw hxs
            go_wp2_with fail
            go_quiet ((first | (go_at_call 82; exact Calls.quiet_of (HT.out _)) | (go_at_call 61; exact Calls.quiet_of (HWG.out _)) | (go_at_call 81; exact Calls.quiet_of_same (HNM.out _))))
            have kf : wc.frozen? ⟨W1.heap.size, 4, none⟩ = false := Lib.frozen_of_heap HG.out 4
            have k1 : wc.cell? ⟨W1.heap.size, 1, none⟩ = some (.int .i64 (R0 : Int)) := by rw [Lib.cell_of_heap HG.out]; rfl
            have k2 : wc.cell? ⟨W1.heap.size, 2, none⟩ = some (.int .i64 (P0 : Int)) := by rw [Lib.cell_of_heap HG.out]; rfl
            have k4 : wc.cell? ⟨W1.heap.size, 4, none⟩ = some (.string (⟨#[]⟩ : ByteArray)) := by rw [Lib.cell_of_heap HG.out]; rfl
            have hne3 : ¬ W1.heap.size = w.heap.size := by omega
            go_wp2_with fail
            have HRn : ((wc.drewN nq).setCell ⟨W1.heap.size, 4, none⟩ (.string (s.extract 11 (11 + n)))).heap[w.heap.size]? = some (.cells #[.int .i64 0, .int .i64 0, .int .i64 0, .bool false, .string (⟨#[]⟩ : ByteArray)] 67 (0, 0)) := by
              rw [Below.heap_setCell _ _ _ _ (by simp; omega)]; exact HR.out
            refine bodyPost_ret (results_says _ _ w.heap.size (.int .i64 (L0 : Int)) (.int .i64 (R0 : Int)) (.int .i64 (P0 : Int)) (.bool bl) (.string (s.extract 11 (11 + n))) (.bool true) rfl rfl (five_put HRn _ _ _ _ _)) rfl ?_
            rw [HSN.out]
            refine ⟨by rw [HXS.out]; rfl, five_below ((HN0.out.trans (below_drewN' (Below.refl _ _))).setCell (p := ⟨W1.heap.size, 4, none⟩) (Nat.le_of_lt HNE.out) _) (Nat.le_refl _) _ _ _ _ _⟩
          · have hsn : saysN s.data.toList = none := by
              rw [← hll]; unfold saysN
              rw [hcc, e4, if_neg hbad, hdt, ← hnn, if_pos (.inr hw)]
            have g1 : ((weighL (ll.take 62) : Int) != (numL (ll.drop 62) : Int)) = true := by rw [bne_iff_ne]; omega
            have HSN := Lib.hid hsn
            clear hL0 hR0 hP0 hll hlen e4 hsn hbad h10 hdt hnn hz1 htr hwg hnm hq hql hcn hnz hc51 hza hcc hw
            go_wp2_with fail
            go_quiet ((first | (go_at_call 82; exact Calls.quiet_of (HT.out _)) | (go_at_call 61; exact Calls.quiet_of (HWG.out _)) | (go_at_call 81; exact Calls.quiet_of_same (HNM.out _))))
            go_wp2_with fail
            have HRn : (wc.drewN nq).heap[w.heap.size]? = _ := HR.out
            refine bodyPost_ret (results_says _ _ w.heap.size (.int .i64 0) (.int .i64 0) (.int .i64 0) (.bool false) (.string (⟨#[]⟩ : ByteArray)) (.bool false) rfl rfl (five_put HRn _ _ _ _ _)) rfl ?_
            rw [HSN.out]
            exact ⟨rfl, five_below (HN0.out.trans (below_drewN' (Below.refl _ _))) (Nat.le_refl _) _ _ _ _ _⟩
end Go.Proofs.YteljihpheffjnaaDoor.Tape
/- (sector).lay, walked. -/
namespace Go.Proofs.YteljihpheffjnaaDoor.Tape
open Go.RowKit Go.Proofs.YteljihpheffjnaaDoor.Ord Go.Proofs.YteljihpheffjnaaDoorW.PrintWords Go.Proofs.YteljihpheffjnaaDoor.Base
set_option linter.unusedVariables false
set_option linter.unusedSimpArgs false
attribute [local irreducible] OpGives
attribute [local go_sem] rdl_const rdl_func rdl_global rdl_nil rdl_cons

/-- A row of bytes of the call's own. -/
def RowB (B : Nat) (W : World) (v : Value) (l : List UInt8) : Prop := W.ownsRow B 5 1 v l.length (Lib.byteCells l)
theorem RowB.nil (B : Nat) (W : World) : RowB B W (.slice none 0 0) [] := World.ownsRow_nil _ _ _ _
theorem put_row {B : Nat} {W : World} {v : Value} {l : List UInt8} (h : RowB B W v l) (hB : B ≤ W.heap.size) (hl : l.length ≤ 1000) (n k : Nat) (hk : k ≤ 7) (hn : n < 9223372036854775808) :
    Calls Tryd.prog 60 #[v, .int .i64 (n : Int), .int .i64 (k : Int)] W fun e w' => ∃ v', e = .returned v' ∧ RowB B w' v' (l ++ beL k n) ∧ Below B W w' := put_any l v B n k W h hB hl hk hn
theorem RowB.string {B : Nat} {W : World} {v : Value} {l : List UInt8} (h : RowB B W v l) : (convert 80 9 v).run Tryd.prog W = .ok (.string ⟨l.toArray⟩) W := by
  unfold RowB at h
  rw [← Drum.nums_ints] at h
  have := own_string (P := Tryd.prog) (src := 80) (dst := 9) (e := 5) Tryd.underlying80 Tryd.underlying5 Tryd.underlying9 h
  rw [str_ints] at this
  exact this
theorem RowB.slice {B : Nat} {W : World} {v : Value} {l : List UInt8} (h : RowB B W v l) : ∃ a c, v = .slice a l.length c := by
  rcases h.2 with ⟨rfl, h0⟩ | ⟨g, cap, cur, rfl, _⟩
  · exact ⟨none, 0, by rw [h0]⟩
  · exact ⟨_, cap, rfl⟩
theorem RowB.below {B : Nat} {W W' : World} {v : Value} {l : List UInt8} (h : RowB B W v l) (hb : Below W.heap.size W W') : RowB B W' v l := by
  refine ⟨h.1, ?_⟩
  rcases h.2 with hn | ⟨g, cap, cur, rfl, hbg, hg, rest⟩
  · exact .inl hn
  · exact .inr ⟨g, cap, cur, rfl, hbg, (hb.block g (Array.getElem?_eq_some_iff.1 hg).1).trans hg, rest⟩
def anyM : Value → World → Prop := fun _ _ => True
theorem StL.any {R : World → World → Prop} {fs : List (Value → World → Prop)} (h : StL R fs) : StL R (anyM :: fs) := ⟨fun _ _ _ _ _ => trivial, h⟩
/-- Three pieces, put one behind the other. -/
def SLay (B : Nat) (w1 : World) (A1 A2 A3 : List UInt8) (L : Nat → Bool) (g : Nat → Value) (W : World) : Prop :=
  Below B w1 W ∧ B ≤ W.heap.size ∧ (L 2 = true → L 5 = false → RowB B W (g 2) A1) ∧ (L 5 = true → L 8 = false → RowB B W (g 5) A2) ∧ (L 8 = true → RowB B W (g 8) A3)
theorem SLay.keep {B : Nat} {w1 W : World} {A1 A2 A3 : List UInt8} {L : Nat → Bool} {g : Nat → Value} (h : SLay B w1 A1 A2 A3 L g W) (i : Nat) (v : Value) (h2 : i ≠ 2) (h5 : i ≠ 5) (h8 : i ≠ 8) :
    SLay B w1 A1 A2 A3 (fun k => if k = i then true else L k) (upd g i v) W := by
  obtain ⟨a, b, c, d, e⟩ := h
  refine ⟨a, b, fun x y => ?_, fun x y => ?_, fun x => ?_⟩
  · simp only [if_neg (Ne.symm h2)] at x; simp only [if_neg (Ne.symm h5)] at y; rw [upd_other _ _ (Ne.symm h2)]; exact c x y
  · simp only [if_neg (Ne.symm h5)] at x; simp only [if_neg (Ne.symm h8)] at y; rw [upd_other _ _ (Ne.symm h5)]; exact d x y
  · simp only [if_neg (Ne.symm h8)] at x; rw [upd_other _ _ (Ne.symm h8)]; exact e x
theorem lay_two {B : Nat} {w1 W w' : World} {A1 A2 A3 A : List UInt8} {L : Nat → Bool} {g : Nat → Value} {v' : Value} {ops : Array Oper} (hL : L 2 = false) (hCl : ∀ k j, L k = true → waits .any ops k j = true → L j = true) (h : SLay B w1 A1 A2 A3 L g W)
    (hrow : RowB B w' v' A) (hb : Below B W w') (h52 : waits .any ops 5 2 = true) (h85 : waits .any ops 8 5 = true) (hA : A = A1) : SLay B w1 A1 A2 A3 (fun k => if k = 2 then true else L k) (upd g 2 v') w' := by
  have f5 : L 5 = false := by
    cases h5 : L 5 with
    | false => rfl
    | true => have := hCl 5 2 h5 h52; rw [hL] at this; cases this
  have f8 : L 8 = false := by
    cases h8 : L 8 with
    | false => rfl
    | true => have := hCl 8 5 h8 h85; rw [f5] at this; cases this
  refine ⟨h.1.trans hb, Nat.le_trans h.2.1 hb.size, fun _ _ => by rw [upd_same, ← hA]; exact hrow, fun x => ?_, fun x => ?_⟩
  · simp [f5] at x
  · simp [f8] at x
theorem lay_five {B : Nat} {w1 W w' : World} {A1 A2 A3 A : List UInt8} {L : Nat → Bool} {g : Nat → Value} {v' : Value} {ops : Array Oper} (hL : L 5 = false) (hCl : ∀ k j, L k = true → waits .any ops k j = true → L j = true) (h : SLay B w1 A1 A2 A3 L g W)
    (hrow : RowB B w' v' A) (hb : Below B W w') (h85 : waits .any ops 8 5 = true) (hA : A = A2) : SLay B w1 A1 A2 A3 (fun k => if k = 5 then true else L k) (upd g 5 v') w' := by
  have f8 : L 8 = false := by
    cases h8 : L 8 with
    | false => rfl
    | true => have := hCl 8 5 h8 h85; rw [hL] at this; cases this
  refine ⟨h.1.trans hb, Nat.le_trans h.2.1 hb.size, fun _ y => ?_, fun _ _ => by rw [upd_same, ← hA]; exact hrow, fun x => ?_⟩
  · simp at y
  · simp [f8] at x
theorem lay_eight {B : Nat} {w1 W w' : World} {A1 A2 A3 A : List UInt8} {L : Nat → Bool} {g : Nat → Value} {v' : Value} {ops : Array Oper} (hL : L 8 = false) (hCl : ∀ k j, L k = true → waits .any ops k j = true → L j = true) (hWt : ∀ j, waits .any ops 8 j = true → L j = true) (h : SLay B w1 A1 A2 A3 L g W)
    (hrow : RowB B w' v' A) (hb : Below B W w') (h85 : waits .any ops 8 5 = true) (hA : A = A3) : SLay B w1 A1 A2 A3 (fun k => if k = 8 then true else L k) (upd g 8 v') w' := by
  have f5 := hWt 5 h85
  refine ⟨h.1.trans hb, Nat.le_trans h.2.1 hb.size, fun _ y => ?_, fun _ y => ?_, fun _ => by rw [upd_same, ← hA]; exact hrow⟩
  · simp [f5] at y
  · simp at y
/-- A piece, and a text behind it. -/
def SApp (B : Nat) (w1 : World) (v0 : Value) (A0 A1 A2 : List UInt8) (L : Nat → Bool) (g : Nat → Value) (W : World) : Prop :=
  Below B w1 W ∧ B ≤ W.heap.size ∧ (L 2 = false → RowB B W v0 A0) ∧ (L 2 = true → L 5 = false → RowB B W (g 2) A1) ∧ (L 5 = true → RowB B W (g 5) A2)
theorem SApp.keep {B : Nat} {w1 W : World} {v0 : Value} {A0 A1 A2 : List UInt8} {L : Nat → Bool} {g : Nat → Value} (h : SApp B w1 v0 A0 A1 A2 L g W) (i : Nat) (v : Value) (h2 : i ≠ 2) (h5 : i ≠ 5) :
    SApp B w1 v0 A0 A1 A2 (fun k => if k = i then true else L k) (upd g i v) W := by
  obtain ⟨a, b, c, d, e⟩ := h
  refine ⟨a, b, fun x => ?_, fun x y => ?_, fun x => ?_⟩
  · simp only [if_neg (Ne.symm h2)] at x; exact c x
  · simp only [if_neg (Ne.symm h2)] at x; simp only [if_neg (Ne.symm h5)] at y; rw [upd_other _ _ (Ne.symm h2)]; exact d x y
  · simp only [if_neg (Ne.symm h5)] at x; rw [upd_other _ _ (Ne.symm h5)]; exact e x
theorem app_two {B : Nat} {w1 W w' : World} {v0 : Value} {A0 A1 A2 A : List UInt8} {L : Nat → Bool} {g : Nat → Value} {v' : Value} {ops : Array Oper} (hL : L 2 = false) (hCl : ∀ k j, L k = true → waits .any ops k j = true → L j = true) (h : SApp B w1 v0 A0 A1 A2 L g W)
    (hrow : RowB B w' v' A) (hb : Below B W w') (h52 : waits .any ops 5 2 = true) (hA : A = A1) : SApp B w1 v0 A0 A1 A2 (fun k => if k = 2 then true else L k) (upd g 2 v') w' := by
  have f5 : L 5 = false := by
    cases h5 : L 5 with
    | false => rfl
    | true => have := hCl 5 2 h5 h52; rw [hL] at this; cases this
  refine ⟨h.1.trans hb, Nat.le_trans h.2.1 hb.size, fun x => ?_, fun _ _ => by rw [upd_same, ← hA]; exact hrow, fun x => ?_⟩
  · simp at x
  · simp [f5] at x
theorem app_five {B : Nat} {w1 W w' : World} {v0 : Value} {A0 A1 A2 : List UInt8} {L : Nat → Bool} {g : Nat → Value} {v' : Value} {ops : Array Oper} (hL : L 5 = false) (hWt : ∀ j, waits .any ops 5 j = true → L j = true) (h : SApp B w1 v0 A0 A1 A2 L g W)
    (hrow : RowB B w' v' A2) (hb : Below B W w') (h52 : waits .any ops 5 2 = true) : SApp B w1 v0 A0 A1 A2 (fun k => if k = 5 then true else L k) (upd g 5 v') w' := by
  have f2 := hWt 2 h52
  refine ⟨h.1.trans hb, Nat.le_trans h.2.1 hb.size, fun x => ?_, fun _ y => ?_, fun _ => by rw [upd_same]; exact hrow⟩
  · simp [f2] at x
  · simp at y
/-- A text behind a row of bytes. -/
theorem append_text {B : Nat} {W : World} {v : Value} {l : List UInt8} (h : RowB B W v l) (hB : B ≤ W.heap.size) (hl : l.length ≤ 1000) (q : ByteArray) (hq : q.size ≤ 1000) (ty : TypeId) :
    ∃ v' W', (Builtin.append_ #[80, 9] ty #[v, .string q]).run Tryd.prog W = .ok v' W' ∧ RowB B W' v' (l ++ q.data.toList) ∧ Below B W W' := by
  obtain ⟨i0, hi, hz0, hz1, hz2⟩ := info_parts info_byte
  obtain ⟨v', W', hr, hown, hg, _⟩ := Lib.run_append_own_string (P := Tryd.prog) W B 80 9 ty 5 i0 Tryd.underlying80 Tryd.underlying9 hi hz0 hz1 hz2 v l.length (Lib.byteCells l) h q (by unfold maxLen; omega) (by omega) hB
  have hsz : q.size = q.data.toList.length := Lib.size_eq q
  refine ⟨v', W', hr, ?_, (Below.refl _ _).grown hg hB (fun k hk => (h.lt k hk).1)⟩
  unfold RowB
  rw [List.length_append, ← hsz, show Lib.byteCells (l ++ q.data.toList) = Lib.byteCells l ++ Lib.strCells q by simp [Lib.byteCells, Lib.strCells]]
  exact hown
theorem exec_append2 {o : Oper} {ρ : Operand → Value} {w w' : World} {v : Value} (s x : Operand) (t u : TypeId) (ho : o.op = .call { callee := .builtin .append, args := #[s, x], argTypes := #[t, u] })
    (hr : (Builtin.append_ #[t, u] o.type #[ρ s, ρ x]).run Tryd.prog w = .ok v w') : (execOp ρ o).run Tryd.prog w = .ok (.value v) w' := by
  unfold execOp
  simp only [ho, resolve, invoke, builtin, Sem.run_bind, Sem.run_pure, Result.andThen_ok, List.map_toArray, List.map_cons, List.map_nil, hr]
theorem wpList_value {P : Program} {ops : Array Oper} {Q : Exit → Act → World → Prop} {a : Act} {w w' : World} {rest : List Oper} {o : Oper} {v : Value} (hg : o.guard = none) (hr : (execOp a.eval o).run P w = .ok (.value v) w') (h : wpList P ops Q rest (a.put o.dst v) w') : wpList P ops Q (o :: rest) a w :=
  wpList_plain hg fun K hK => by unfold Oper.wp; rw [hr]; exact hK _ _ h
theorem zero_bytes (m : Nat) : (Builtin.zeroCells (Value.int .u8 0).cells m).toList = List.replicate m (.int .u8 0) := by
  refine List.eq_replicate_iff.2 ⟨by simp [Builtin.zeroCells, Value.cells], fun b hb => ?_⟩
  simp only [Builtin.zeroCells, Value.cells] at hb
  simp at hb
  obtain ⟨i, _, e⟩ := hb
  rw [← e, Nat.mod_one]; rfl
/-- Zeros behind a row of bytes. -/
theorem append_zeros {B : Nat} {W : World} {v : Value} {l : List UInt8} (h : RowB B W v l) (hB : B ≤ W.heap.size) (m : Nat) (hl : l.length + m ≤ 1000) (ty : TypeId) :
    ∃ v' W', (Builtin.append_ #[80, 3] ty #[v, .int .i64 (m : Int)]).run Tryd.prog W = .ok v' W' ∧ RowB B W' v' (l ++ List.replicate m 0) ∧ Below B W W' := by
  obtain ⟨i0, hi, hz0, hz1, hz2⟩ := info_parts info_byte
  obtain ⟨v', W', hr, hown, hg, _⟩ := run_append_zeros (P := Tryd.prog) W B 80 3 ty 5 i0 (.int .u8 0) 1 1 Tryd.underlying80 Tryd.underlying3 hi hz0 hz1 hz2 rfl (by decide) (by decide) v l.length (Lib.byteCells l) h .i64 m (fun u hu => by
    rw [zero_bytes] at hu
    rw [List.eq_of_mem_replicate hu]; rfl) (by omega) hB
  refine ⟨v', W', hr, ?_, (Below.refl _ _).grown hg hB (fun k hk => (h.lt k hk).1)⟩
  unfold RowB
  rw [zero_bytes] at hown
  rw [List.length_append, List.length_replicate, show Lib.byteCells (l ++ List.replicate m 0) = Lib.byteCells l ++ List.replicate m (.int .u8 0) by simp [Lib.byteCells]]
  exact hown
theorem or128 (n : Nat) (h : n ≤ 51) : bits .or .i64 (n : Int) 128 = ((n + 128 : Nat) : Int) := by
  have : ∀ x : Fin 52, bits .or .i64 ((x : Nat) : Int) 128 = (((x : Nat) + 128 : Nat) : Int) := by decide +kernel
  exact this ⟨n, by omega⟩
set_option maxHeartbeats 8000000 in
set_option maxRecDepth 100000 in
theorem lay_any (x : Sec) (hs : x.s.length ≤ 51) (hl : x.life < 9223372036854775808) (hr : x.record < 9223372036854775808) (hp : x.part < 9223372036854775808) (w : World) :
    Calls Tryd.prog 35 #[.agg (secCs (some x))] w fun e w' => e = .returned (.string ⟨(layN x).toArray⟩) ∧ NewMem w w' := by
  obtain ⟨life, record, part, last, s⟩ := x
  simp only at hs hl hr hp
  obtain ⟨q, hq⟩ : ∃ q : ByteArray, q = ⟨s.toArray⟩ := ⟨_, rfl⟩
  have hqs : q.size = s.length := by rw [hq]; simp [ByteArray.size]
  obtain ⟨W1, hW1⟩ : ∃ W1, W1 = w.alloc (.cells #[.int .i64 (life : Int), .int .i64 (record : Int), .int .i64 (part : Int), .bool last, .string q] 67) := ⟨_, rfl⟩
  have hn1 : NewMem w W1 := by rw [hW1]; exact NewMem.alloc _ _
  have hg1 : W1.heap[w.heap.size]? = some (.cells #[.int .i64 (life : Int), .int .i64 (record : Int), .int .i64 (part : Int), .bool last, .string q] 67 (0, 0)) := by rw [hW1]; exact heap_alloc_last _ _
  have hlt : w.heap.size < W1.heap.size := (Array.getElem?_eq_some_iff.1 hg1).1
  have cells : ∀ W, Below W1.heap.size W1 W → W.cell? ⟨w.heap.size, 0, none⟩ = some (.int .i64 (life : Int)) ∧ W.cell? ⟨w.heap.size, 1, none⟩ = some (.int .i64 (record : Int)) ∧ W.cell? ⟨w.heap.size, 2, none⟩ = some (.int .i64 (part : Int)) ∧ W.cell? ⟨w.heap.size, 3, none⟩ = some (.bool last) ∧ W.cell? ⟨w.heap.size, 4, none⟩ = some (.string q) := fun W hW => by
    have hg := (hW.block _ hlt).trans hg1
    refine ⟨?_, ?_, ?_, ?_, ?_⟩ <;> (rw [Lib.cell_of_heap hg]; rfl)
  have HW1 := Lib.hid hW1
  have HN1 := Lib.hid hn1
  have HC := Lib.hid cells
  clear hW1 hn1 cells hg1
  rw [show secCs (some ⟨life, record, part, last, s⟩) = #[.int .i64 (life : Int), .int .i64 (record : Int), .int .i64 (part : Int), .bool last, .string q] by rw [hq]; rfl]
  have HQ := Lib.hid hq
  clear hq
  go_enter Tryd.func35, Tryd.ntmps35
  go_wp2_with fail
  rw [← HW1.out]
  refine' wp_region_factsG (sz := 38) (S := (SLay W1.heap.size W1 (beL 4 life) (beL 4 life ++ beL 4 record) (beL 4 life ++ beL 4 record ++ beL 2 part))) (fun _ _ _ => True) [eqM _, eqM (.int .i64 (life : Int)), anyM, eqM _, eqM (.int .i64 (record : Int)), anyM, eqM _, eqM (.int .i64 (part : Int)), anyM] (by kernel_rfl) (by kernel_rfl) rfl (guardsM_of [] (n := 9) rfl (by kernel_rfl) trivial) ?hst ?h0 (Ord.stepsG_cons ?s0 (Ord.stepsG_cons ?s1 (Ord.stepsG_cons ?s2 (Ord.stepsG_cons ?s3 (Ord.stepsG_cons ?s4 (Ord.stepsG_cons ?s5 (Ord.stepsG_cons ?s6 (Ord.stepsG_cons ?s7 (Ord.stepsG_cons ?s8 (Ord.stepsG_nil)))))))))) ?fin
  case s0 =>
    intro g W L hL hWt hCl hSW hd
    try simp only [Nat.zero_add, Nat.reduceAdd] at hd ⊢
    with_reducible refine OpGives.pre_reads [] 38 ?_ ?_ ?_
    · rfl
    · kernel_rfl
    simp only [List.map_cons, List.map_nil]
    refine OpGives.val (w' := W) ?_ ⟨trivial, rfl, (SLay.keep hSW _ _ (by decide) (by decide) (by decide))⟩
    go_simp
    try with_reducible rfl
  case s1 =>
    intro g W L hL hWt hCl hSW hd
    try simp only [Nat.zero_add, Nat.reduceAdd] at hd ⊢
    have h0 : g 0 = _ := hd 0 (by decide) (by kernel_rfl)
    with_reducible refine OpGives.pre_reads [(5, 0)] 38 ?_ ?_ ?_
    · rfl
    · kernel_rfl
    simp only [List.map_cons, List.map_nil]
    have c0 := (HC.out W hSW.1).1; refine OpGives.val (v := .int .i64 (life : Int)) (w' := W) ?_ ⟨trivial, rfl, SLay.keep hSW _ _ (by decide) (by decide) (by decide)⟩; go_simp
  case s2 =>
    intro g W L hL hWt hCl hSW hd
    try simp only [Nat.zero_add, Nat.reduceAdd] at hd ⊢
    have h1 : g 1 = _ := hd 1 (by decide) (by kernel_rfl)
    with_reducible refine OpGives.pre_reads [(6, 1)] 38 ?_ ?_ ?_
    · rfl
    · kernel_rfl
    simp only [List.map_cons, List.map_nil]
    refine OpGives.call (f := 60) (args := #[.slice none 0 0, .int .i64 (life : Int), .int .i64 ((4 : Nat) : Int)]) (w' := W) (by go_simp) ((put_row (RowB.nil W1.heap.size W) hSW.2.1 (by decide) life 4 (by decide) hl).mono fun e w' ⟨v', he, hrow, hb⟩ => ⟨v', he, trivial, trivial, lay_two hL hCl hSW hrow hb (by kernel_rfl) (by kernel_rfl) rfl⟩)
  case s3 =>
    intro g W L hL hWt hCl hSW hd
    try simp only [Nat.zero_add, Nat.reduceAdd] at hd ⊢
    with_reducible refine OpGives.pre_reads [] 38 ?_ ?_ ?_
    · rfl
    · kernel_rfl
    simp only [List.map_cons, List.map_nil]
    refine OpGives.val (w' := W) ?_ ⟨trivial, rfl, (SLay.keep hSW _ _ (by decide) (by decide) (by decide))⟩
    go_simp
    try with_reducible rfl
  case s4 =>
    intro g W L hL hWt hCl hSW hd
    try simp only [Nat.zero_add, Nat.reduceAdd] at hd ⊢
    have h3 : g 3 = _ := hd 3 (by decide) (by kernel_rfl)
    with_reducible refine OpGives.pre_reads [(8, 3)] 38 ?_ ?_ ?_
    · rfl
    · kernel_rfl
    simp only [List.map_cons, List.map_nil]
    have c0 := (HC.out W hSW.1).2.1; refine OpGives.val (v := .int .i64 (record : Int)) (w' := W) ?_ ⟨trivial, rfl, SLay.keep hSW _ _ (by decide) (by decide) (by decide)⟩; go_simp
  case s5 =>
    intro g W L hL hWt hCl hSW hd
    try simp only [Nat.zero_add, Nat.reduceAdd] at hd ⊢
    have h2 := hd 2 (by decide) (by kernel_rfl)
    change (anyM) (g 2) W at h2
    have h4 : g 4 = _ := hd 4 (by decide) (by kernel_rfl)
    with_reducible refine OpGives.pre_reads [(7, 2), (9, 4)] 38 ?_ ?_ ?_
    · rfl
    · kernel_rfl
    simp only [List.map_cons, List.map_nil]
    refine OpGives.call (f := 60) (args := #[g 2, .int .i64 (record : Int), .int .i64 ((4 : Nat) : Int)]) (w' := W) (by go_simp) ((put_row (hSW.2.2.1 (hWt 2 (by kernel_rfl)) hL) hSW.2.1 (by rw [beL_len]; decide) record 4 (by decide) hr).mono fun e w' ⟨v', he, hrow, hb⟩ => ⟨v', he, trivial, trivial, lay_five hL hCl hSW hrow hb (by kernel_rfl) rfl⟩)
  case s6 =>
    intro g W L hL hWt hCl hSW hd
    try simp only [Nat.zero_add, Nat.reduceAdd] at hd ⊢
    with_reducible refine OpGives.pre_reads [] 38 ?_ ?_ ?_
    · rfl
    · kernel_rfl
    simp only [List.map_cons, List.map_nil]
    refine OpGives.val (w' := W) ?_ ⟨trivial, rfl, (SLay.keep hSW _ _ (by decide) (by decide) (by decide))⟩
    go_simp
    try with_reducible rfl
  case s7 =>
    intro g W L hL hWt hCl hSW hd
    try simp only [Nat.zero_add, Nat.reduceAdd] at hd ⊢
    have h6 : g 6 = _ := hd 6 (by decide) (by kernel_rfl)
    with_reducible refine OpGives.pre_reads [(11, 6)] 38 ?_ ?_ ?_
    · rfl
    · kernel_rfl
    simp only [List.map_cons, List.map_nil]
    have c0 := (HC.out W hSW.1).2.2.1; refine OpGives.val (v := .int .i64 (part : Int)) (w' := W) ?_ ⟨trivial, rfl, SLay.keep hSW _ _ (by decide) (by decide) (by decide)⟩; go_simp
  case s8 =>
    intro g W L hL hWt hCl hSW hd
    try simp only [Nat.zero_add, Nat.reduceAdd] at hd ⊢
    have h5 := hd 5 (by decide) (by kernel_rfl)
    change (anyM) (g 5) W at h5
    have h7 : g 7 = _ := hd 7 (by decide) (by kernel_rfl)
    with_reducible refine OpGives.pre_reads [(10, 5), (12, 7)] 38 ?_ ?_ ?_
    · rfl
    · kernel_rfl
    simp only [List.map_cons, List.map_nil]
    refine OpGives.call (f := 60) (args := #[g 5, .int .i64 (part : Int), .int .i64 ((2 : Nat) : Int)]) (w' := W) (by go_simp) ((put_row (hSW.2.2.2.1 (hWt 5 (by kernel_rfl)) hL) hSW.2.1 (by rw [List.length_append, beL_len, beL_len]; decide) part 2 (by decide) hp).mono fun e w' ⟨v', he, hrow, hb⟩ => ⟨v', he, trivial, trivial, lay_eight hL hCl hWt hSW hrow hb (by kernel_rfl) rfl⟩)
  case hst =>
    refine fun i j v w w' _ h _ => st_of (R := fun _ _ => True) ?_ i v w w' h trivial
    repeat' first
      | exact trivial
      | with_reducible refine StL.eq ?_
      | with_reducible refine StL.any ?_
  case h0 => exact ⟨(Below.refl _ _).drew, Nat.le_refl _, (fun h => by cases h), (fun h => by cases h), (fun h => by cases h)⟩
  case fin =>
    intro v W L hL hSW hf
    have hrow := hSW.2.2.2.2 (hL 8 (Nat.lt_of_lt_of_eq (by decide : 8 < 9) rfl))
    have hbw := hSW.1
    have hbs := hSW.2.1
    clear hf hSW hL
    generalize hF : Ord.pre _ _ v _ = F
    rw [Ord.pre_lit [some 5, some 6, some 7, some 8, some 9, some 10, some 11, some 12, some 13]
      (by kernel_rfl)] at hF
    simp only [Ord.puts, Nat.zero_add, Nat.reduceAdd] at hF
    subst hF
    generalize v 8 = b0 at *
    refine any_one (i := 9) (by kernel_rfl) ?_
    refine wpOp_value (v := b0) (w' := W) rfl rfl (by go_simp) ?_
    refine wpAny_done (by kernel_rfl) ?_ _
    try simp only [List.getElem_toArray, List.getElem_cons_succ, List.getElem_cons_zero]
    go_frame
    obtain ⟨A3, hA3⟩ : ∃ A3, A3 = beL 4 life ++ beL 4 record ++ beL 2 part := ⟨_, rfl⟩
    rw [← hA3] at hrow
    obtain ⟨cnt, hcnt⟩ : ∃ cnt, cnt = s.length + if last then 128 else 0 := ⟨_, rfl⟩
    have hcn : cnt < 256 := by rw [hcnt]; split <;> omega
    have hA3l : A3.length = 10 := by rw [hA3]; simp [beL_len]
    have HROW := Lib.hid hrow
    have HBW := Lib.hid hbw
    have HBS := Lib.hid hbs
    have HA3 := Lib.hid hA3
    have HCN := Lib.hid hcnt
    have HA3L := Lib.hid hA3l
    have HLT := Lib.hid hlt
    clear hrow hbw hbs hA3 hcnt hA3l hlt
    obtain ⟨_, _, _, c3, c4⟩ := HC.out W HBW.out
    go_upto_if 18 with (fail)
    clear c3 c4
    go_cut [4] (fun n wc => n = .int .i64 (cnt : Int) ∧ wc = W)
    case first =>
      have ho := or128 s.length hs
      cases last with
      | true =>
        have e : cnt = s.length + 128 := HCN.out
        have E := Lib.hid e
        clear e
        go_wp2_with fail
        go_meet
        case rel => exact ⟨by rw [E.out]; go_num, rfl⟩
      | false =>
        have e : cnt = s.length := HCN.out
        have E := Lib.hid e
        clear e ho
        go_wp2_with fail
        go_meet
        case rel => exact ⟨by rw [E.out], rfl⟩
    case rest =>
      obtain ⟨rfl, rfl⟩ := hcut
      go_wp2_with fail
      refine' wp_region_factsG (sz := 38) (S := (SApp W1.heap.size wc b0 A3 (A3 ++ beL 1 cnt) (A3 ++ beL 1 cnt ++ s))) (fun _ _ _ => True) [eqM _, eqM _, anyM, eqM _, eqM (.string q), anyM] (by kernel_rfl) (by kernel_rfl) rfl (guardsM_of [] (n := 6) rfl (by kernel_rfl) trivial) ?hst ?h0 (Ord.stepsG_cons ?s0 (Ord.stepsG_cons ?s1 (Ord.stepsG_cons ?s2 (Ord.stepsG_cons ?s3 (Ord.stepsG_cons ?s4 (Ord.stepsG_cons ?s5 (Ord.stepsG_nil))))))) ?fin
      case s0 =>
        intro g W L hL hWt hCl hSW hd
        try simp only [Nat.zero_add, Nat.reduceAdd] at hd ⊢
        with_reducible refine OpGives.pre_reads [] 38 ?_ ?_ ?_
        · rfl
        · kernel_rfl
        simp only [List.map_cons, List.map_nil]
        refine OpGives.val (w' := W) ?_ ⟨trivial, rfl, (SApp.keep hSW _ _ (by decide) (by decide))⟩
        go_simp
        try with_reducible rfl
      case s1 =>
        intro g W L hL hWt hCl hSW hd
        try simp only [Nat.zero_add, Nat.reduceAdd] at hd ⊢
        with_reducible refine OpGives.pre_reads [] 38 ?_ ?_ ?_
        · rfl
        · kernel_rfl
        simp only [List.map_cons, List.map_nil]
        refine OpGives.val (w' := W) ?_ ⟨trivial, rfl, (SApp.keep hSW _ _ (by decide) (by decide))⟩
        go_simp
        try with_reducible rfl
      case s2 =>
        intro g W L hL hWt hCl hSW hd
        try simp only [Nat.zero_add, Nat.reduceAdd] at hd ⊢
        have h0 : g 0 = _ := hd 0 (by decide) (by kernel_rfl)
        have h1 : g 1 = _ := hd 1 (by decide) (by kernel_rfl)
        with_reducible refine OpGives.pre_reads [(21, 0), (22, 1)] 38 ?_ ?_ ?_
        · rfl
        · kernel_rfl
        simp only [List.map_cons, List.map_nil]
        refine OpGives.call (f := 60) (args := #[b0, .int .i64 (cnt : Int), .int .i64 ((1 : Nat) : Int)]) (w' := W) (by go_simp) ((put_row (hSW.2.2.1 hL) hSW.2.1 (by rw [HA3L.out]; decide) cnt 1 (by decide) (by omega)).mono fun e w' ⟨v', he, hrow, hb⟩ => ⟨v', he, trivial, trivial, app_two hL hCl hSW hrow hb (by kernel_rfl) rfl⟩)
      case s3 =>
        intro g W L hL hWt hCl hSW hd
        try simp only [Nat.zero_add, Nat.reduceAdd] at hd ⊢
        with_reducible refine OpGives.pre_reads [] 38 ?_ ?_ ?_
        · rfl
        · kernel_rfl
        simp only [List.map_cons, List.map_nil]
        refine OpGives.val (w' := W) ?_ ⟨trivial, rfl, (SApp.keep hSW _ _ (by decide) (by decide))⟩
        go_simp
        try with_reducible rfl
      case s4 =>
        intro g W L hL hWt hCl hSW hd
        try simp only [Nat.zero_add, Nat.reduceAdd] at hd ⊢
        have h3 : g 3 = _ := hd 3 (by decide) (by kernel_rfl)
        with_reducible refine OpGives.pre_reads [(24, 3)] 38 ?_ ?_ ?_
        · rfl
        · kernel_rfl
        simp only [List.map_cons, List.map_nil]
        have c4 := (HC.out W (HBW.out.trans hSW.1)).2.2.2.2; refine OpGives.val (v := .string q) (w' := W) ?_ ⟨trivial, rfl, SApp.keep hSW _ _ (by decide) (by decide)⟩; go_simp
      case s5 =>
        intro g W L hL hWt hCl hSW hd
        try simp only [Nat.zero_add, Nat.reduceAdd] at hd ⊢
        have h2 := hd 2 (by decide) (by kernel_rfl)
        change (anyM) (g 2) W at h2
        have h4 : g 4 = _ := hd 4 (by decide) (by kernel_rfl)
        with_reducible refine OpGives.pre_reads [(23, 2), (25, 4)] 38 ?_ ?_ ?_
        · rfl
        · kernel_rfl
        simp only [List.map_cons, List.map_nil]
        obtain ⟨v', W', hr, hrow, hb⟩ := append_text (hSW.2.2.2.1 (hWt 2 (by kernel_rfl)) hL) hSW.2.1 (by rw [List.length_append, HA3L.out, beL_len]; decide) q (by rw [hqs]; omega) 80; rw [← h4] at hr; exact OpGives.val (v := v') (w' := W') (exec_append2 _ _ _ _ rfl hr) ⟨trivial, trivial, app_five hL hWt hSW (by rw [HQ.out] at hrow; simpa using hrow) hb (by kernel_rfl)⟩
      case hst =>
        refine fun i j v w w' _ h _ => st_of (R := fun _ _ => True) ?_ i v w w' h trivial
        repeat' first
          | exact trivial
          | with_reducible refine StL.eq ?_
          | with_reducible refine StL.any ?_
      case h0 => exact ⟨(Below.refl _ _).drew, HBS.out, fun _ => HROW.out, (fun h => by cases h), (fun h => by cases h)⟩
      case fin =>
        intro v W L hL hSW hf
        have hrow := hSW.2.2.2.2 (hL 5 (Nat.lt_of_lt_of_eq (by decide : 5 < 6) rfl))
        have hbw := hSW.1
        have hbs := hSW.2.1
        clear hf hSW hL
        generalize hF : Ord.pre _ _ v _ = F
        rw [Ord.pre_lit [some 21, some 22, some 23, some 24, some 25, some 26]
          (by kernel_rfl)] at hF
        simp only [Ord.puts, Nat.zero_add, Nat.reduceAdd] at hF
        subst hF
        generalize v 5 = b1 at *
        refine any_one (i := 6) (by kernel_rfl) ?_
        refine wpOp_value (v := b1) (w' := W) rfl rfl (by go_simp) ?_
        refine wpAny_done (by kernel_rfl) ?_ _
        try simp only [List.getElem_toArray, List.getElem_cons_succ, List.getElem_cons_zero]
        go_frame
        obtain ⟨l1, hl1⟩ : ∃ l1, l1 = A3 ++ beL 1 cnt ++ s := ⟨_, rfl⟩
        rw [← hl1] at hrow
        have hll : l1.length = 11 + s.length := by rw [hl1, List.length_append, List.length_append, HA3L.out, beL_len]
        have hll2 : l1.length ≤ 62 := by omega
        obtain ⟨a, cp, rfl⟩ := hrow.slice
        obtain ⟨v2, W2, hr2, hrow2, hb2⟩ := append_zeros hrow hbs (62 - l1.length) (by omega) 80
        rw [show ((62 - l1.length : Nat) : Int) = 62 - (l1.length : Int) by omega] at hr2
        have hlay : headL ⟨life, record, part, last, s⟩ = l1 ++ List.replicate (62 - l1.length) 0 := by
          unfold headL
          simp only
          rw [← HCN.out, hl1, HA3.out, show 62 - (beL 4 life ++ beL 4 record ++ beL 2 part ++ beL 1 cnt ++ s).length = 51 - s.length by simp [beL_len]; omega]
          simp only [List.append_assoc]
        have hB2 : Below W1.heap.size W1 W2 := (HBW.out.trans hbw).trans hb2
        have hs2 : W1.heap.size ≤ W2.heap.size := Nat.le_trans hbs hb2.size
        rw [← hlay] at hrow2
        have h62 : (headL ⟨life, record, part, last, s⟩).length = 62 := headL_len hs
        obtain ⟨hd, hhd⟩ : ∃ hd, hd = headL ⟨life, record, part, last, s⟩ := ⟨_, rfl⟩
        have hfin : layN ⟨life, record, part, last, s⟩ = hd ++ beL 2 (weighL hd) := by rw [hhd]; rfl
        rw [← hhd] at hrow2 h62
        have hst := hrow2.string
        have hw3 := fun W => weigh_any ⟨hd.toArray⟩ (by rw [Lib.size_eq]; simp [h62]) W
        have hdl : (⟨hd.toArray⟩ : ByteArray).data.toList = hd := by simp
        rw [hdl] at hw3
        obtain ⟨hq2, hhq2⟩ : ∃ hq2 : ByteArray, hq2 = ⟨hd.toArray⟩ := ⟨_, rfl⟩
        rw [← hhq2] at hst hw3
        have HW3 := Lib.hid hw3
        have HROW2 := Lib.hid hrow2
        have HB2 := Lib.hid hB2
        have HS2 := Lib.hid hs2
        have HFIN := Lib.hid hfin
        have H62 := Lib.hid h62
        clear hrow hbw hbs hl1 hll hrow2 hb2 hlay hB2 hs2 h62 hhd hfin hw3 hdl hhq2
        go_wp2_with (refine wpList_value rfl (exec_append2 _ _ 80 3 rfl hr2) ?_)
        refine (HW3.out W2).mono ?_
        rintro e W3 ⟨rfl, hb3⟩
        have HROW3 := Lib.hid (HROW2.out.below hb3)
        have HB3 := Lib.hid (HB2.out.trans (hb3.mono HS2.out))
        have HS3 := Lib.hid (Nat.le_trans HS2.out hb3.size)
        clear hb3
        go_wp2_with fail
        refine (put_row HROW3.out HS3.out (by rw [H62.out]; decide) (weighL hd) 2 (by decide) (by have := weighL_lt hd; omega)).mono ?_
        rintro e W4 ⟨v4, rfl, hrow4, hb4⟩
        have hst4 := hrow4.string
        have HB4 := Lib.hid (NewMem.trans HN1.out (HB3.out.trans hb4))
        clear hrow4 hb4 hst
        go_wp2_with fail
        go_ret
        exact ⟨by rw [HFIN.out]; rfl, HB4.out⟩
end Go.Proofs.YteljihpheffjnaaDoor.Tape
/- tape.sectors: the iterator over a drum's sectors. -/
namespace Go.Proofs.YteljihpheffjnaaDoor.Tape
open Go.RowKit Go.Proofs.YteljihpheffjnaaDoor.Ord Go.Proofs.YteljihpheffjnaaDoorW.PrintWords Go.Proofs.YteljihpheffjnaaDoor.Base Go.Proofs.YteljihpheffjnaaDoor.Drum
open Go.Shelf
set_option linter.unusedVariables false
set_option linter.unusedSimpArgs false
attribute [local go_sem] Oper.semAt_some

/-- What a drum's sector says. -/
def DS.sec (D : DS) (j : Nat) : Option Sec := saysN (D.shows j)
def encSec (D : DS) (j : Nat) : Array Value := #[.agg (secCs (DS.sec D j)), .bool (DS.sec D j).isSome]
theorem shows_len {w : World} {b sb cap : Nat} {lv : Value} {D : DS} (h : DrumAt w b sb cap lv D) {j : Nat} (hj : j < D.sure.length) : (D.shows j).length = 64 := by
  unfold DS.shows
  cases hf : D.loose.reverse.find? (fun q => q.1 == j) with
  | some q => exact (h.wloose q (List.mem_reverse.1 (List.mem_of_find?_eq_some hf))).1
  | none =>
    have : D.sure.getD j [] = D.sure[j] := by rw [List.getD_eq_getElem?_getD, List.getElem?_eq_getElem hj]; rfl
    rw [this]
    exact h.wsure _ (List.getElem_mem hj)
theorem read_in {D : DS} {j : Nat} (hd : D.down = false) (hj : j < D.sure.length) : D.read (j : Int) = (D.shows j, 0) := by
  unfold DS.read
  rw [if_neg (by rw [hd]; simp), if_pos ⟨by omega, by omega⟩, Int.toNat_natCast]
/-- The drum with all its blocks below n₀. -/
structure DrumLow (n₀ : Nat) (W : World) (b : Nat) (D : DS) : Prop where
  at_ : ∃ sb cap lv, DrumAt W b sb cap lv D ∧ sb < n₀ ∧ ∀ k, lv.ownBlock = some k → k < n₀
  lt : b < n₀
  down : D.down = false
  few : D.loose.length ≤ 1000000
theorem DrumLow.below {n₀ : Nat} {W W' : World} {b : Nat} {D : DS} (h : DrumLow n₀ W b D) (hb : Below n₀ W W') (hn : n₀ ≤ W.heap.size) : DrumLow n₀ W' b D := by
  obtain ⟨⟨sb, cap, lv, h1, h2, h3⟩, h4, h5, h6⟩ := h
  refine ⟨⟨sb, cap, lv, h1.kept (F := fun k => n₀ ≤ k) ⟨hb.os, hb.tape, hb.output, hb.size, fun k hk hn => hb.block k (by omega)⟩ (fun k hk => ?_), h2, h3⟩, h4, h5, h6⟩
  rcases hk with rfl | rfl | hk
  · omega
  · omega
  · have := h3 k hk; omega
theorem DrumLow.cellb {n₀ : Nat} {W : World} {b : Nat} {D : DS} (h : DrumLow n₀ W b D) : ∃ a cap, W.cell? ⟨b, 0, none⟩ = some (.slice a D.sure.length cap) ∧ 0 < D.sure.length ∧ D.sure.length ≤ 4096 := by
  obtain ⟨sb, cap, lv, h1, _⟩ := h.at_
  exact ⟨_, _, h1.cell.cells.1, h1.pos, h1.few⟩
theorem DrumLow.read {n₀ : Nat} {W : World} {b : Nat} {D : DS} (h : DrumLow n₀ W b D) {j : Nat} (hj : j < D.sure.length) :
    Calls Tryd.prog 51 #[.pointer (some ⟨b, 0, none⟩), .int .i64 (j : Int)] W fun e W' => e = .returned (.tuple #[.string ⟨(D.shows j).toArray⟩, .int .i64 0]) ∧ NewMem W W' := by
  obtain ⟨sb, cap, lv, h1, _⟩ := h.at_
  have := read_at b sb cap lv D (j : Int) W h1 h.few
  rw [read_in h.down hj] at this
  exact this
theorem DrumLow.shows {n₀ : Nat} {W : World} {b : Nat} {D : DS} (h : DrumLow n₀ W b D) {j : Nat} (hj : j < D.sure.length) : (D.shows j).length = 64 := by
  obtain ⟨sb, cap, lv, h1, _⟩ := h.at_
  exact shows_len h1 hj
theorem says_of (l : List UInt8) (h : l.length = 64) (w : World) :
    Calls Tryd.prog 73 #[.string ⟨l.toArray⟩] w fun e w' => e = .returned (.tuple #[.agg (secCs (saysN l)), .bool (saysN l).isSome]) ∧ NewMem w w' := by
  have := says_any ⟨l.toArray⟩ (by rw [Lib.size_eq]; simpa using h) w
  have e : (⟨l.toArray⟩ : ByteArray).data.toList = l := by simp
  rw [e] at this
  exact this
/-- What a round keeps: what lies low, and the iterator's own box. -/
def Kp (n₀ Bd : Nat) (W W' : World) : Prop := Below n₀ W W' ∧ ∀ o, W.heap[Bd]? = some o → W'.heap[Bd]? = some o
theorem Kp.refl (n₀ Bd : Nat) (W : World) : Kp n₀ Bd W W := ⟨Below.refl _ _, fun _ h => h⟩
theorem Kp.trans {n₀ Bd : Nat} {A B C : World} (h : Kp n₀ Bd A B) (k : Kp n₀ Bd B C) : Kp n₀ Bd A C := ⟨h.1.trans k.1, fun o e => k.2 o (h.2 o e)⟩
theorem Kp.put {n₀ Bd : Nat} {w : World} (hn : n₀ ≤ w.heap.size) (hB : Bd < w.heap.size) (W : World) (l : Nat) (o o' : Obj) (hl : w.heap.size ≤ l) (h : W.heap[l]? = some o) (h1 : o.isCells = false) (h2 : o.isWalk = false) : Kp n₀ Bd W (W.putObj l o') :=
  ⟨belowK_b hn W l o o' hl h h1 h2, fun x e => ((grownBy_putObj' W l o').block Bd (Array.getElem?_eq_some_iff.1 e).1 (fun e => by injection e; omega)).trans e⟩
theorem Kp.of_new {n₀ Bd : Nat} {A B : World} (h : NewMem A B) (hn : n₀ ≤ A.heap.size) : Kp n₀ Bd A B := ⟨h.mono hn, fun o e => (h.block _ (Array.getElem?_eq_some_iff.1 e).1).trans e⟩
set_option maxRecDepth 100000 in
set_option maxHeartbeats 4000000 in
theorem sectors1_in (n : Nat) (hn : 1 ≤ n) (l Bf Bd n₀ b from_ : Nat) (D : DS) (J Jx : List Nat → World → Prop) (hJ : ∀ pre W W', J pre W → NewMem W W' → J pre W')
    (hY : ∀ pre x W, J pre W → pre.length < D.sure.length - from_ → YieldAt .wide (n - 1) Tryd.prog l (encSec D x) W fun e W' =>
      (e = .returned (.bool true) ∧ J (pre ++ [x]) W' ∧ Kp n₀ Bd W W') ∨ (e = .returned (.bool false) ∧ Jx (pre ++ [x]) W'))
    (W : World) (hn₀ : n₀ ≤ W.heap.size) (hbf : W.cell? ⟨Bf, 0, none⟩ = some (.int .i64 (from_ : Int))) {tB : TypeId} (hbd : W.heap[Bd]? = some (.cells #[.pointer (some ⟨b, 0, none⟩)] tB (0, 0))) (hD : DrumLow n₀ W b D) (hfr : from_ ≤ D.sure.length) (h0 : J [] W) :
    CallsIn .wide n Tryd.prog 72 #[.func (.yield l) #[] #[], .pointer (some ⟨Bf, 0, none⟩), .pointer (some ⟨Bd, 0, none⟩)] W fun e W' => (∃ v, e = .returned v) ∧
      ((∃ ys, ys = List.range' from_ (D.sure.length - from_) ∧ J ys W') ∨ (∃ pre, (∃ k, k ≤ D.sure.length - from_ ∧ pre = List.range' from_ k) ∧ Jx pre W')) := by
  obtain ⟨a0, cap0, _, hpos, hfew⟩ := hD.cellb
  have HD := Lib.hid hD
  have HY := Lib.hid hY
  have HJ := Lib.hid hJ
  have HBD := Lib.hid hbd
  have HN₀ := Lib.hid hn₀
  obtain ⟨N, hN⟩ : ∃ N, N = D.sure.length := ⟨_, rfl⟩
  have HN := Lib.hid hN
  rw [← hN] at hpos hfew hfr
  clear hD hY hJ hbd hN hn₀
  refine callsIn_of_wp Tryd.func72 rfl trivial ?_ rfl
  simp only [Tryd.ntmps72, List.size_toArray, List.length_cons, List.length_nil, Nat.reduceAdd, Nat.reduceSub, Array.replicate_succ, Array.replicate_zero, List.push_toArray, List.append_toArray, List.nil_append, List.cons_append]
  gi_wp2
  gi_loopw [4] (fun i wr => ∃ k : Nat, from_ + k ≤ N ∧ i = .int .i64 ((from_ + k : Nat) : Int) ∧ J (List.range' from_ k) wr ∧ Kp n₀ Bd W wr)
    (fun i _ => N - (intOf i).toNat)
  case atStart => exact ⟨0, by omega, rfl, h0, Kp.refl _ _ _⟩
  case round =>
    obtain ⟨k, hk, rfl, hJs, hnx⟩ := hrel
    have hbd : wr.cell? ⟨Bd, 0, none⟩ = some (.pointer (some ⟨b, 0, none⟩)) := by rw [Lib.cell_of_heap (hnx.2 _ HBD.out)]; rfl
    have hDr := HD.out.below hnx.1 HN₀.out
    obtain ⟨a1, cap1, c1, _, _⟩ := hDr.cellb
    have hsize := size_of b a1 D.sure.length cap1 wr c1 HD.out.cellb.choose_spec.choose_spec.2.1
    rw [← HN.out] at hsize
    have HSZ := Lib.hid hsize
    have HDR := Lib.hid hDr
    have HJS := Lib.hid hJs
    have HNX := Lib.hid hnx
    clear hDr c1 hsize hJs hnx
    by_cases hlt : from_ + k < N
    · have hj : from_ + k < D.sure.length := by have := HN.out; omega
      have hrd := HDR.out.read hj
      have hsh := HDR.out.shows hj
      have hsy := fun W => says_of (D.shows (from_ + k)) hsh W
      have hsucc : List.range' from_ (k + 1) = List.range' from_ k ++ [from_ + k] := by rw [List.range'_concat]; simp
      have hlen : (List.range' from_ k).length < D.sure.length - from_ := by rw [List.length_range']; have := HN.out; omega
      have rnd : ∀ w3, NewMem wr w3 → YieldAt .wide (n - 1) Tryd.prog l (encSec D (from_ + k)) w3 fun e W' =>
          (e = .returned (.bool true) ∧ J (List.range' from_ (k + 1)) W' ∧ Kp n₀ Bd w3 W') ∨ (e = .returned (.bool false) ∧ Jx (List.range' from_ (k + 1)) W') := fun w3 h3 => by
        rw [hsucc]
        exact HY.out _ _ w3 (HJ.out _ _ _ HJS.out h3) hlen
      have RND := Lib.hid rnd
      have HRD := Lib.hid hrd
      have HSY := Lib.hid hsy
      have HSUC := Lib.hid hsucc
      clear hrd hsh hsy hsucc hlen rnd hj
      gi_wp2_with (first
        | (refine ⟨trivial, ?_⟩; gi_at_call 38; refine (callsIn_wide.2 HSZ.out).mono ?_; rintro e w' ⟨rfl, rfl⟩)
        | (refine ⟨trivial, ?_⟩; gi_at_call 51; refine (callsIn_wide.2 HRD.out).mono ?_; rintro e w2 ⟨rfl, hn2⟩; have HN2 := Lib.hid hn2; clear hn2))
      refine ⟨trivial, ?_⟩
      refine (callsIn_wide.2 (HSY.out _)).mono ?_
      rintro e w3 ⟨rfl, hn3⟩
      have HN3 := Lib.hid (NewMem.trans HN2.out hn3)
      clear hn3
      obtain ⟨fn, tmps, assign, body, hy, hR⟩ := RND.out _ HN3.out
      unfold encSec DS.sec at hy
      gi_wp2
      refine hR.mono ?_
      rintro e W3 (⟨rfl, hJ3, hk3⟩ | ⟨rfl, hJx3⟩)
      · have hb3 : Kp n₀ Bd W W3 := (HNX.out.trans (Kp.of_new HN3.out (Nat.le_trans HN₀.out HNX.out.1.size))).trans hk3
        have HJ3 := Lib.hid hJ3
        have HB3 := Lib.hid hb3
        clear hJ3 hk3 hb3
        gi_wp2
        go_roundw
        case rel => exact ⟨k + 1, by omega, by go_num, HJ3.out, HB3.out⟩
        case measure => simp only [intOf]; omega
      · have HJX := Lib.hid hJx3
        clear hJx3
        gi_wp2
        refine bodyPost_ret (results_none rfl _ _ _) rfl ?_
        exact ⟨⟨_, rfl⟩, .inr ⟨_, ⟨k + 1, by have := HN.out; omega, rfl⟩, HJX.out⟩⟩
    · have hkn : k = D.sure.length - from_ := by have := HN.out; omega
      gi_wp2_with (refine ⟨trivial, ?_⟩; gi_at_call 38; refine (callsIn_wide.2 HSZ.out).mono ?_; rintro e w' ⟨rfl, rfl⟩)
      go_end0
      exact ⟨⟨_, rfl⟩, .inl ⟨_, by rw [hkn], HJS.out⟩⟩
theorem sectors_stops (n : Nat) (hn : 1 ≤ n) (Bf Bd n₀ b from_ : Nat) (D : DS) (w : World) (hn₀ : n₀ ≤ w.heap.size) {tF tB : TypeId} (hbf : w.heap[Bf]? = some (.cells #[.int .i64 (from_ : Int)] tF (0, 0))) (hbd : w.heap[Bd]? = some (.cells #[.pointer (some ⟨b, 0, none⟩)] tB (0, 0))) (hD : DrumLow n₀ w b D) (hfr : from_ ≤ D.sure.length) :
    SeqStopsK .wide n Tryd.prog 72 #[.pointer (some ⟨Bf, 0, none⟩), .pointer (some ⟨Bd, 0, none⟩)] (encSec D) (Kp n₀ Bd) (fun ys => ys = List.range' from_ (D.sure.length - from_))
      (fun pre => ∃ k, k ≤ D.sure.length - from_ ∧ pre = List.range' from_ k) (D.sure.length - from_) w := fun l J Jx W hW hJ _ hY h0 => by
  have h1 := (hW.block Bf (Array.getElem?_eq_some_iff.1 hbf).1).trans hbf
  have h2 := (hW.block Bd (Array.getElem?_eq_some_iff.1 hbd).1).trans hbd
  have c1 : W.cell? ⟨Bf, 0, none⟩ = some (.int .i64 (from_ : Int)) := by rw [Lib.cell_of_heap h1]; rfl
  exact sectors1_in n hn l Bf Bd n₀ b from_ D J Jx (fun pre A B hA hAB => hJ pre A B none hA ⟨hAB.os, hAB.tape, hAB.output, hAB.size, fun k hk _ => hAB.block k hk⟩ (fun r e => by cases e)) hY W (Nat.le_trans hn₀ hW.size) c1 h2 (hD.below (hW.mono hn₀) hn₀) hfr h0
end Go.Proofs.YteljihpheffjnaaDoor.Tape
/- tape.greatest: the greatest life of all whole sectors. -/
namespace Go.Proofs.YteljihpheffjnaaDoor.Tape
open Go.RowKit Go.Proofs.YteljihpheffjnaaDoor.Ord Go.Proofs.YteljihpheffjnaaDoorW.PrintWords Go.Proofs.YteljihpheffjnaaDoor.Base Go.Proofs.YteljihpheffjnaaDoor.Drum
open Go.Shelf
set_option linter.unusedVariables false
set_option linter.unusedSimpArgs false
attribute [local go_sem] Oper.semAt_some
attribute [local irreducible] OpGives

theorem sectors_in (F : Fence) (n : Nat) (hf : F.fn 56) (hro : F.round = none) (b from_ : Value) (w : World) (h1 : b.oneCell' = true) (h2 : from_.oneCell' = true) :
    CallsIn F n Tryd.prog 56 #[b, from_] w fun e w' => e = .returned (.func (.func 72) #[] #[.pointer (some ⟨w.heap.size + 1, 0, none⟩), .pointer (some ⟨w.heap.size, 0, none⟩)]) ∧ w' = (w.alloc (.cells #[b] 24)).alloc (.cells #[from_] 3) := by
  refine callsIn_of_wp Tryd.func56 rfl hf ?_ hro
  simp only [Tryd.ntmps56, List.size_toArray, List.length_cons, List.length_nil, Nat.reduceAdd, Nat.reduceSub, Array.replicate_succ, Array.replicate_zero, List.push_toArray, List.append_toArray, List.nil_append, List.cons_append]
  gi_wp2
  go_ret
  exact ⟨rfl, by simp⟩
def DS.great1 (D : DS) (m j : Nat) : Nat := match DS.sec D j with
  | some x => max m x.life
  | none => m
def DS.greatL (D : DS) (l : List Nat) : Nat := l.foldl (DS.great1 D) 0
def DS.great (D : DS) : Nat := DS.greatL D (List.range' 0 D.sure.length)
theorem greatL_snoc (D : DS) (l : List Nat) (j : Nat) : DS.greatL D (l ++ [j]) = DS.great1 D (DS.greatL D l) j := by unfold DS.greatL; rw [List.foldl_append]; rfl
theorem own_lt {W : World} {base : Nat} {e : TypeId} {size : Nat} {g cap k n : Nat} {xs : List Value} (h : W.ownsRow base e size (.slice (some ⟨g, 0, none⟩) n cap) k xs) : g < W.heap.size := by
  rcases h.2 with ⟨e, _⟩ | ⟨g', cp, cur, e, _, hg, _⟩
  · cases e
  · injection e with e1 _ _
    injection e1 with e1
    injection e1 with e1
    subst e1
    exact (Array.getElem?_eq_some_iff.1 hg).1
theorem Kp.set {n₀ Bd B : Nat} (hB : n₀ ≤ B) (hne : Bd ≠ B) (W : World) (v : Value) : Kp n₀ Bd W (W.setCell ⟨B, 0, none⟩ v) :=
  ⟨(Below.refl n₀ W).setCell (p := ⟨B, 0, none⟩) hB v, fun o e => (Below.heap_setCell W _ v Bd hne).trans e⟩
theorem kp_own {β : Type} {n₀ Bd B : Nat} {w₀ : World} (hn : n₀ ≤ w₀.heap.size) (hB : n₀ ≤ B) (hBd : Bd < B) : OwnFrom B (fun (_ : β) W => Kp n₀ Bd w₀ W) := fun s X Y row hs hg hr =>
  ⟨ownFrom_below hn hB s X Y row hs.1 hg hr, fun o e => by
    have hX := hs.2 o e
    exact (hg.block Bd (Array.getElem?_eq_some_iff.1 hX).1 (fun e => by have := (hr Bd e.symm).1; omega)).trans hX⟩
theorem sec_info (o : Option Sec) : (Tryd.prog.info? 67).map (·.size) = some (secCs o).size ∧ 5 = (secCs o).size ∧ (secCs o).all (·.oneCell') = true := by
  have h1 : (Tryd.prog.info? 67).map (fun i => i.size) = some 5 := by kernel_rfl
  cases o <;> exact ⟨h1, rfl, by simp [secCs, Value.oneCell']⟩
def lifeBox (W : World) (B : Nat) (n : Nat) : Prop := W.heap[B]? = some (.cells #[.int .i64 (n : Int)] 3 (0, 0))
set_option maxRecDepth 100000 in
set_option maxHeartbeats 8000000 in
theorem greatest_at (b sb cap : Nat) (lv : Value) (D : DS) (w : World) (h : DrumAt w b sb cap lv D) (hd : D.down = false) (hn : D.loose.length ≤ 1000000) :
    Calls Tryd.prog 32 #[.pointer (some ⟨b, 0, none⟩)] w fun e w' => e = .returned (.int .i64 (DS.great D : Int)) ∧ NewMem w w' := by
  obtain ⟨W0, hW0⟩ : ∃ W0, ((w.alloc (.cells #[.int .i64 0] 3)).alloc (.cells #[.pointer (some ⟨b, 0, none⟩)] 24)).alloc (.cells #[.int .i64 0] 3) = W0 := ⟨_, rfl⟩
  have hz : W0.heap.size = w.heap.size + 3 := by rw [← hW0]; simp
  have hw0 : NewMem w W0 := by rw [← hW0]; exact ((NewMem.alloc _ _).trans (NewMem.alloc _ _)).trans (NewMem.alloc _ _)
  have b0 : Boxed W0 w.heap.size 3 (.int .i64 0) := by rw [← hW0]; exact ((Boxed.new w 3 _).alloc _).alloc _
  have b1 : Boxed W0 (w.heap.size + 1) 24 (.pointer (some ⟨b, 0, none⟩)) := by
    have := (Boxed.new (w.alloc (.cells #[.int .i64 0] 3)) 24 (.pointer (some ⟨b, 0, none⟩))).alloc (.cells #[.int .i64 0] 3)
    rw [World.size_alloc, hW0] at this; exact this
  have b2 : Boxed W0 (w.heap.size + 1 + 1) 3 (.int .i64 0) := by
    have := Boxed.new ((w.alloc (.cells #[.int .i64 0] 3)).alloc (.cells #[.pointer (some ⟨b, 0, none⟩)] 24)) 3 (.int .i64 0)
    rw [World.size_alloc, World.size_alloc, hW0] at this; exact this
  have hblk : ∀ k, lv.ownBlock = some k → k < w.heap.size := fun k hk => by
    rcases h.loose.2 with ⟨e, _⟩ | ⟨g, cp, cur, e, _, hg, _⟩
    · rw [e] at hk; simp [Value.ownBlock] at hk
    · rw [e] at hk
      have : g = k := by simpa [Value.ownBlock] using hk
      subst this
      exact (Array.getElem?_eq_some_iff.1 hg).1
  have hlow : DrumLow w.heap.size W0 b D := ⟨⟨sb, cap, lv, h.kept (F := fun _ => False) (Mod.of_below hw0) (fun _ _ => id), own_lt h.sure, hblk⟩, (Array.getElem?_eq_some_iff.1 h.cell).1, hd, hn⟩
  have stops := sectors_stops (30 - 1) (by decide) (w.heap.size + 1 + 1) (w.heap.size + 1) w.heap.size b 0 D W0 (by omega) b2 b1 hlow (by omega)
  have STOPS := Lib.hid stops
  have HW0 := Lib.hid hW0
  have HW := Lib.hid hw0
  have HZ := Lib.hid hz
  have B0 := Lib.hid b0
  have B1 := Lib.hid b1
  clear stops hW0 hw0 hz b0 b1 b2 hblk hlow h hd hn
  refine (callsIn_wide (n := 30)).1 ?_
  refine callsIn_of_wp_marks Tryd.func32 rfl trivial ?_ rfl
  simp only [Tryd.ntmps32, List.size_toArray, List.length_cons, List.length_nil, Nat.reduceAdd, Nat.reduceSub, Array.replicate_succ, Array.replicate_zero, List.push_toArray, List.append_toArray, List.nil_append, List.cons_append]
  gi_wp2_with (refine ⟨trivial, ?_⟩; gi_at_call 56; refine (sectors_in Fence.wide _ trivial rfl _ _ _ rfl rfl).mono ?_; rintro e w' ⟨rfl, rfl⟩)
  rw [HW0.out]
  refine wpIn_rangeFunc_ownH rfl (by decide) (gf := 72) (lb := #[.pointer (some ⟨w.heap.size + 1 + 1, 0, none⟩), .pointer (some ⟨w.heap.size + 1, 0, none⟩)]) rfl trivial (enters_of Tryd.func72 (by kernel_rfl) rfl)
    STOPS.out (fun h k => Kp.trans h k) (fun W l o o' hl h h1 h2 => Kp.put (w := W0) (by have := HZ.out; omega) (by have := HZ.out; omega) W l o o' hl h h1 h2) (Below.refl _ _) (by intro x; rfl)
    (fun pre W => lifeBox W w.heap.size (DS.greatL D pre) ∧ Kp w.heap.size (w.heap.size + 1) W0 W)
    (fun c pre W => False)
    (OwnFrom.and (fun s A B row h hg hr => block_own _ _ _ _ W0.heap.size () A B row h hg hr) (kp_own (by have := HZ.out; omega) (by have := HZ.out; omega) (by have := HZ.out; omega)))
    (fun c s A B row h hg hr => h)
    ⟨B0.out, Kp.refl _ _ _⟩
    (fun x a' W => ∃ Bx, W0.heap.size ≤ Bx ∧ W.heap[Bx]? = some (.cells (secCs (DS.sec D x)) 67 (0, 0)) ∧ a' = { tmps := #[Value.pointer (some { block := b, off := 0 }), undef, Value.int IntKind.i64 0, Value.pointer (some { block := w.heap.size, off := 0 }), Value.pointer (some { block := Bx, off := 0 }), .bool (DS.sec D x).isSome, Value.pointer (some { block := b, off := 0 }), Value.func (Fn.func 72) #[] #[Value.pointer (some { block := w.heap.size + 1 + 1, off := 0 }), Value.pointer (some { block := w.heap.size + 1, off := 0 })], .agg (secCs (DS.sec D x)), .bool (DS.sec D x).isSome, undef, undef, undef, undef, undef, undef], defers := [] })
    (fun x a' s X Y row hs hg hr => by obtain ⟨Bx, h1, h2, h3⟩ := hs; exact ⟨Bx, h1, block_own _ _ _ _ W0.heap.size () X Y row h2 hg hr, h3⟩)
    ?assign ?body ?done ?stop
  case assign =>
    rintro l pre x W K ⟨hlf, hkp⟩ hK
    have hinfo := sec_info (DS.sec D x)
    have HI := Lib.hid hinfo
    have HLF := Lib.hid hlf
    have HKP := Lib.hid hkp
    have HK := Lib.hid hK
    clear hinfo hlf hkp hK
    unfold encSec
    generalize DS.sec D x = o at *
    gi_wp2_with (refine wpListIn_skipped rfl (fun _ h => by cases h) rfl (exec_store_row 67 _ _ rfl W.heap.size (secCs o) rfl rfl 67 _ (heap_alloc_last _ _) HI.out.1 HI.out.2.1 HI.out.2.2) ?_; rw [World.setRow_alloc_new])
    exact HK.out _ _ ((KeepsOthers.alloc _ _).from _) (Kp.of_new (NewMem.alloc _ _) (Nat.le_trans (by have := HZ.out; omega) HKP.out.1.size)) ⟨(Below.heap_alloc _ _ _ (Array.getElem?_eq_some_iff.1 HLF.out).1).trans HLF.out, HKP.out.trans (Kp.of_new (NewMem.alloc _ _) (Nat.le_trans (by have := HZ.out; omega) HKP.out.1.size))⟩ ⟨W.heap.size, by have := HKP.out.1.size; omega, heap_alloc_last _ _, rfl⟩
  case body =>
    rintro l pre x a' W hl ⟨r, hr⟩ ⟨hlf, hkp⟩ ⟨Bx, hBx, hcell, rfl⟩ hlt
    have hsn := greatL_snoc D pre x
    have HSN := Lib.hid hsn
    have HL := Lib.hid hlf
    have HKP := Lib.hid hkp
    unfold DS.great1 at HSN
    have c1 : W.cell? ⟨w.heap.size, 0, none⟩ = some (.int .i64 (DS.greatL D pre : Int)) := by rw [Lib.cell_of_heap hlf]; rfl
    have f1 : W.frozen? ⟨w.heap.size, 0, none⟩ = false := Boxed.frozen (t := 3) (v := .int .i64 (DS.greatL D pre : Int)) hlf
    cases hs : DS.sec D x with
    | none =>
      rw [hs] at HSN
      clear hcell hlf hkp hr hs hsn
      simp only [Option.isSome_none]
      gi_wp2
      refine ⟨KeepsFrom.refl _ _, Kp.refl _ _ _, ?_, HKP.out⟩
      rw [HSN.out]; exact HL.out
    | some s =>
      rw [hs] at HSN hcell
      have c2 : W.cell? ⟨Bx, 0, none⟩ = some (.int .i64 (s.life : Int)) := by rw [Lib.cell_of_heap hcell]; rfl
      clear hcell hlf hkp hr hs hsn
      simp only [Option.isSome_some]
      gi_wp2
      have hm : max (DS.greatL D pre : Int) (s.life : Int) = ((max (DS.greatL D pre) s.life : Nat) : Int) := by omega
      rw [hm]
      have HM := Kp.set (n₀ := w.heap.size) (Bd := w.heap.size + 1) (B := w.heap.size) (Nat.le_refl _) (by omega) W (.int .i64 ((max (DS.greatL D pre) s.life : Nat) : Int))
      refine ⟨(KeepsOthers.setCell _ _ _).from _, HM, ?_, HKP.out.trans HM⟩
      rw [HSN.out]
      exact Boxed.set (t := 3) _ HL.out
  case done =>
    rintro D' ys W hD rfl ⟨hlf, hkp⟩ hK
    have c1 : W.cell? ⟨w.heap.size, 0, none⟩ = some (.int .i64 (DS.greatL D (List.range' 0 (D.sure.length - 0)) : Int)) := by rw [Lib.cell_of_heap hlf]; rfl
    have HKP := Lib.hid hkp
    have HKD := Lib.hid hK
    clear hlf hkp hK
    gi_wp2
    refine ⟨by simp, .inl ⟨_, _, rfl, run_takeDeferred HKD.out, ?_⟩⟩
    refine ⟨_, by simp [results, Tryd.f32, go_sem]; rfl, ?_⟩
    refine ⟨by simp [DS.great], ?_⟩
    have hz := HZ.out
    exact (Below.trans HW.out HKP.out.1).trans (belowK_b (w := w) (Nat.le_refl _) W D' _ _ (by omega) HKD.out rfl rfl)
  case stop =>
    rintro D' c pre W hD hp h hK
    exact h.elim
end Go.Proofs.YteljihpheffjnaaDoor.Tape
