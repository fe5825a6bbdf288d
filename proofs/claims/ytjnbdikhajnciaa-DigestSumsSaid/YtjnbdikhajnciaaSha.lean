/- SHA-256 as plain Lean functions over 32-bit words, and how the model's numbers stand to them. No program in sight. -/
import Derived.Laws.BitsLemmas
import Derived.Laws.Shifts
import Derived.IntWalk
namespace Go.Proofs.Ytjnbdikhajnciaa.Sha
open Go

/-- A word as the model's number (a name of its own: the walk's simp shall not look into it). -/
def u (x : BitVec 32) : Int := (x.toNat : Int)
def U (x : BitVec 32) : Value := .int .u32 (u x)

theorem u_lt (x : BitVec 32) : u x < 4294967296 := by have := x.isLt; unfold u; omega
theorem u_ge (x : BitVec 32) : 0 ≤ u x := by unfold u; omega
theorem wrap_u (x : BitVec 32) : IntKind.u32.wrap (u x) = u x := by
  rw [IntKind.wrap_u32]; have := u_lt x; have := u_ge x; omega

theorem bits_xor (a b : BitVec 32) : bits .xor .u32 (u a) (u b) = u (a ^^^ b) := by
  have h : bits .xor .u32 (u a) (u b) = IntKind.u32.wrap ((BitVec.ofInt 32 (u a) ^^^ BitVec.ofInt 32 (u b)).toNat : Int) := rfl
  rw [h]; simp only [u, BitVec.ofInt_natCast, BitVec.ofNat_toNat, BitVec.setWidth_eq]; exact wrap_u _
theorem bits_and (a b : BitVec 32) : bits .and .u32 (u a) (u b) = u (a &&& b) := by
  have h : bits .and .u32 (u a) (u b) = IntKind.u32.wrap ((BitVec.ofInt 32 (u a) &&& BitVec.ofInt 32 (u b)).toNat : Int) := rfl
  rw [h]; simp only [u, BitVec.ofInt_natCast, BitVec.ofNat_toNat, BitVec.setWidth_eq]; exact wrap_u _
theorem bits_or (a b : BitVec 32) : bits .or .u32 (u a) (u b) = u (a ||| b) := by
  have h : bits .or .u32 (u a) (u b) = IntKind.u32.wrap ((BitVec.ofInt 32 (u a) ||| BitVec.ofInt 32 (u b)).toNat : Int) := rfl
  rw [h]; simp only [u, BitVec.ofInt_natCast, BitVec.ofNat_toNat, BitVec.setWidth_eq]; exact wrap_u _
theorem u_ones : (4294967295 : Int) = u (BitVec.allOnes 32) := by decide
theorem bits_not (a : BitVec 32) : bits .xor .u32 4294967295 (u a) = u (~~~a) := by
  rw [u_ones, bits_xor, BitVec.allOnes_xor]
theorem bits_not' (a : BitVec 32) : bits .xor .u32 (u a) 4294967295 = u (~~~a) := by
  rw [u_ones, bits_xor, BitVec.xor_allOnes]
theorem wrap_add (a b : BitVec 32) : IntKind.u32.wrap (u a + u b) = u (a + b) := by
  unfold u; rw [IntKind.wrap_u32, BitVec.toNat_add]; omega
theorem shr_nat (a : BitVec 32) (n : Nat) : u a / 2 ^ n = u (a >>> n) := by
  unfold u; rw [BitVec.toNat_ushiftRight, Nat.shiftRight_eq_div_pow]; simp
theorem shr_3 (a : BitVec 32) : u a / (8 : Int) = u (a >>> 3) := shr_nat a 3
theorem shr_10 (a : BitVec 32) : u a / (1024 : Int) = u (a >>> 10) := shr_nat a 10
theorem shl_nat (a : BitVec 32) (n : Nat) : IntKind.u32.wrap (u a * 2 ^ n) = u (a <<< n) := by
  unfold u; rw [IntKind.wrap_u32, BitVec.toNat_shiftLeft, Nat.shiftLeft_eq]; simp

/-- A byte as a word. -/
def ofByte (b : UInt8) : BitVec 32 := BitVec.ofNat 32 b.toNat
theorem ofByte_u (b : UInt8) : u (ofByte b) = (b.toNat : Int) := by
  have : b.toNat < 256 := b.toNat_lt
  simp only [u, ofByte, BitVec.toNat_ofNat]; omega

def rotr (x : BitVec 32) (n : Nat) : BitVec 32 := (x >>> n) ||| (x <<< (32 - n))
def ch (e f g : BitVec 32) : BitVec 32 := (e &&& f) ^^^ (~~~e &&& g)
def maj (a b c : BitVec 32) : BitVec 32 := (a &&& b) ^^^ (a &&& c) ^^^ (b &&& c)
theorem maj_eq (a b c : BitVec 32) : (a &&& (b ^^^ c)) ^^^ (b &&& c) = maj a b c := by
  unfold maj; ext i hi; simp; cases a[i] <;> cases b[i] <;> cases c[i] <;> rfl
def S1 (e : BitVec 32) : BitVec 32 := rotr e 6 ^^^ rotr e 11 ^^^ rotr e 25
def S0 (a : BitVec 32) : BitVec 32 := rotr a 2 ^^^ rotr a 13 ^^^ rotr a 22
def s0 (x : BitVec 32) : BitVec 32 := rotr x 7 ^^^ rotr x 18 ^^^ (x >>> 3)
def s1 (x : BitVec 32) : BitVec 32 := rotr x 17 ^^^ rotr x 19 ^^^ (x >>> 10)

/-- The rounds' own numbers. -/
def K : List (BitVec 32) := [
  0x428a2f98, 0x71374491, 0xb5c0fbcf, 0xe9b5dba5, 0x3956c25b, 0x59f111f1, 0x923f82a4, 0xab1c5ed5,
  0xd807aa98, 0x12835b01, 0x243185be, 0x550c7dc3, 0x72be5d74, 0x80deb1fe, 0x9bdc06a7, 0xc19bf174,
  0xe49b69c1, 0xefbe4786, 0x0fc19dc6, 0x240ca1cc, 0x2de92c6f, 0x4a7484aa, 0x5cb0a9dc, 0x76f988da,
  0x983e5152, 0xa831c66d, 0xb00327c8, 0xbf597fc7, 0xc6e00bf3, 0xd5a79147, 0x06ca6351, 0x14292967,
  0x27b70a85, 0x2e1b2138, 0x4d2c6dfc, 0x53380d13, 0x650a7354, 0x766a0abb, 0x81c2c92e, 0x92722c85,
  0xa2bfe8a1, 0xa81a664b, 0xc24b8b70, 0xc76c51a3, 0xd192e819, 0xd6990624, 0xf40e3585, 0x106aa070,
  0x19a4c116, 0x1e376c08, 0x2748774c, 0x34b0bcb5, 0x391c0cb3, 0x4ed8aa4a, 0x5b9cca4f, 0x682e6ff3,
  0x748f82ee, 0x78a5636f, 0x84c87814, 0x8cc70208, 0x90befffa, 0xa4506ceb, 0xbef9a3f7, 0xc67178f2]
theorem K_len : K.length = 64 := rfl

/-- The word of four bytes from place 'at' on. -/
def number (l : List UInt8) (at_ : Nat) : BitVec 32 :=
  (ofByte (l.getD at_ 0) <<< 24) ||| (ofByte (l.getD (at_ + 1) 0) <<< 16) ||| (ofByte (l.getD (at_ + 2) 0) <<< 8) ||| ofByte (l.getD (at_ + 3) 0)

/-- The next word of a block, behind those that are known. -/
def next (l : List UInt8) (ws : List (BitVec 32)) (i : Nat) : BitVec 32 :=
  if i < 16 then number l (4 * i)
  else s1 (ws.getD (i - 2) 0) + ws.getD (i - 7) 0 + s0 (ws.getD (i - 15) 0) + ws.getD (i - 16) 0
/-- The first n words of a block. -/
def words (l : List UInt8) : Nat → List (BitVec 32)
  | 0 => []
  | n + 1 => words l n ++ [next l (words l n) n]
theorem words_len (l : List UInt8) (n : Nat) : (words l n).length = n := by
  induction n with
  | zero => rfl
  | succ n ih => simp [words, ih]
theorem words_get (l : List UInt8) (n i : Nat) (h : i < n) : (words l n).getD i 0 = next l (words l i) i := by
  induction n with
  | zero => omega
  | succ n ih =>
    simp only [words, List.getD_eq_getElem?_getD]
    by_cases e : i = n
    · subst e; rw [List.getElem?_append_right (by simp [words_len])]; simp [words_len]
    · rw [List.getElem?_append_left (by simp [words_len]; omega)]
      have := ih (by omega)
      simpa [List.getD_eq_getElem?_getD] using this
theorem words_pre (l : List UInt8) (n m i : Nat) (h : i < n) (hm : n ≤ m) : (words l m).getD i 0 = (words l n).getD i 0 := by
  rw [words_get l n i h, words_get l m i (by omega)]

structure S8 where
  a : BitVec 32
  b : BitVec 32
  c : BitVec 32
  d : BitVec 32
  e : BitVec 32
  f : BitVec 32
  g : BitVec 32
  h : BitVec 32
def S8.cells (x : S8) : List Value := [U x.a, U x.b, U x.c, U x.d, U x.e, U x.f, U x.g, U x.h]
def S8.add (x y : S8) : S8 := ⟨x.a + y.a, x.b + y.b, x.c + y.c, x.d + y.d, x.e + y.e, x.f + y.f, x.g + y.g, x.h + y.h⟩
def step (x : S8) (k w : BitVec 32) : S8 :=
  ⟨x.h + S1 x.e + ch x.e x.f x.g + k + w + (S0 x.a + maj x.a x.b x.c), x.a, x.b, x.c, x.d + (x.h + S1 x.e + ch x.e x.f x.g + k + w), x.e, x.f, x.g⟩
def rounds (x : S8) (ws : List (BitVec 32)) : Nat → S8
  | 0 => x
  | i + 1 => step (rounds x ws i) (K.getD i 0) (ws.getD i 0)
/-- The state behind a block. -/
def turn (x : S8) (l : List UInt8) : S8 := x.add (rounds x (words l 64) 64)
/-- The state behind n blocks. -/
def run (x : S8) : Nat → List UInt8 → S8
  | 0, _ => x
  | n + 1, l => run (turn x (l.take 64)) n (l.drop 64)
def init : S8 := ⟨0x6a09e667, 0xbb67ae85, 0x3c6ef372, 0xa54ff53a, 0x510e527f, 0x9b05688c, 0x1f83d9ab, 0x5be0cd19⟩
def bytesOf (x : BitVec 32) : List UInt8 := [UInt8.ofNat (x.toNat / 2 ^ 24), UInt8.ofNat (x.toNat / 2 ^ 16), UInt8.ofNat (x.toNat / 2 ^ 8), UInt8.ofNat x.toNat]
def S8.bytes (x : S8) : List UInt8 := bytesOf x.a ++ bytesOf x.b ++ bytesOf x.c ++ bytesOf x.d ++ bytesOf x.e ++ bytesOf x.f ++ bytesOf x.g ++ bytesOf x.h
/-- What stands behind a text of n bytes. -/
def tail (n : Nat) : List UInt8 :=
  [0x80] ++ List.replicate ((119 - n % 64) % 64) 0 ++ (List.range 8).map fun i => UInt8.ofNat (n * 8 / 2 ^ (56 - 8 * i))
def sum (l : List UInt8) : List UInt8 := (run init ((l.length + (tail l.length).length) / 64) (l ++ tail l.length)).bytes

theorem run_add (x : S8) (n m : Nat) : ∀ l : List UInt8, run x (n + m) l = run (run x n l) m (l.drop (64 * n)) := by
  induction n generalizing x with
  | zero => intro l; simp [run]
  | succ n ih =>
    intro l
    rw [show n + 1 + m = (n + m) + 1 by omega]
    simp only [run]
    rw [ih]
    simp only [List.drop_drop]
    rw [show 64 + 64 * n = 64 * (n + 1) by omega]
theorem run_pre (x : S8) (n : Nat) : ∀ l r : List UInt8, 64 * n ≤ l.length → run x n (l ++ r) = run x n l := by
  induction n generalizing x with
  | zero => intro l r _; rfl
  | succ n ih =>
    intro l r h
    simp only [run]
    rw [List.take_append_of_le_length (by omega), List.drop_append_of_le_length (by omega), ih _ _ _ (by simp; omega)]
theorem tail_len (n : Nat) : (tail n).length = 9 + (119 - n % 64) % 64 := by simp [tail]; omega
theorem bytes_len (x : S8) : x.bytes.length = 32 := rfl
theorem sum_len (l : List UInt8) : (sum l).length = 32 := rfl

def hexd (n : Nat) : UInt8 := ([48,49,50,51,52,53,54,55,56,57,97,98,99,100,101,102] : List UInt8).getD n 0
def hex (l : List UInt8) : List UInt8 := l.flatMap fun b => [hexd (b.toNat / 16), hexd (b.toNat % 16)]
set_option maxRecDepth 100000 in
theorem abc : hex (sum [97, 98, 99]) = [98,97,55,56,49,54,98,102,56,102,48,49,99,102,101,97,52,49,52,49,52,48,100,101,53,100,97,101,50,50,50,51,98,48,48,51,54,49,97,51,57,54,49,55,55,97,57,99,98,52,49,48,102,102,54,49,102,50,48,48,49,53,97,100] := by
  decide +kernel
end Go.Proofs.Ytjnbdikhajnciaa.Sha
