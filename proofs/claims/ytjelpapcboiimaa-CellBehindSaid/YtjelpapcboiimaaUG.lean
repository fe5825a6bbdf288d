/- What a text tells from a place on: a cell and where it ends, or an error. -/
import Derived.Test.YtjelpapcboiimaaUF
namespace Go.Proofs.Ytjelpapcboiimaa.PCellPuts
open Go.RowKit Go.Proofs.Ytjelpapcboiimaa.Ord Go.Proofs.YtjelpapcboiimaaW.PrintWords Go.Proofs.YtjelpapcboiimaaW.PrintLast Go.Proofs.YtjelpapcboiimaaW.PrintMore
set_option linter.unusedVariables false
set_option linter.unusedSimpArgs false

/-- What is read: something and where it ends, or an error's place and number. -/
inductive DR (α : Type) where
  | ok (x : α) (q : Nat)
  | bad (p e : Nat)
def byteAt (s : ByteArray) (p : Nat) : Nat := (s.data.toList.getD p 0).toNat
/-- The number of n bytes behind p. -/
def numAt (s : ByteArray) (p : Nat) : Nat → Nat
  | 0 => 0
  | n + 1 => numAt s p n * 256 + byteAt s (p + n)
def widthOf (k : Nat) : Nat := if k = 1 ∨ k = 2 then 8 else 2
def mostOf (k : Nat) : Nat := if k = 1 ∨ k = 2 then 9223372036854775807 else if k = 3 then 65535 else 4095
/-- k cells in line, each by f. -/
def manyW (f : Nat → DR S25) : Nat → Nat → List S25 → DR (List S25)
  | 0, q, acc => .ok acc q
  | k + 1, q, acc => match f q with
    | .ok x q' => manyW f k q' (acc ++ [x])
    | .bad p e => .bad p e
/-- The cell at p, what lies in it by g. -/
def cellW (s : ByteArray) (deep : Bool) (g : Nat → DR S25) (p : Nat) : DR S25 :=
  if s.size < p + 1 then .bad s.size 3
  else
    let b := byteAt s p
    if b / 16 < 1 ∨ 4 < b / 16 then .bad p 4
    else if widthOf (b / 16) < b % 16 then .bad p 4
    else if deep = false then .bad p 5
    else if s.size < p + 1 + b % 16 then .bad s.size 3
    else if 0 < b % 16 ∧ byteAt s (p + 1) = 0 then .bad p 4
    else
      let k := numAt s (p + 1) (b % 16)
      let q := p + 1 + b % 16
      if mostOf (b / 16) < k then .bad p 4
      else if b / 16 = 1 then .ok ⟨1, (k : Int), ⟨#[]⟩, []⟩ q
      else if b / 16 = 2 then .ok ⟨1, -1 - (k : Int), ⟨#[]⟩, []⟩ q
      else if b / 16 = 3 then (if s.size < q + k then .bad s.size 3 else .ok ⟨2, 0, s.extract q (q + k), []⟩ (q + k))
      else match manyW g k q [] with
        | .ok l q' => .ok ⟨3, 0, ⟨#[]⟩, l⟩ q'
        | .bad p' e => .bad p' e
def cellD (s : ByteArray) : Nat → Nat → DR S25
  | 0 => cellW s false (fun _ => .bad 0 0)
  | d + 1 => cellW s true (cellD s d)
/-- What the reader's call leaves. -/
def CellPost (r : DR S25) (b : Nat) (s : ByteArray) (p : Nat) (w : World) (e : Ending) (w' : World) : Prop :=
  ModB b w w' ∧ match r with
  | .ok x q => (∃ v, e = .returned (.agg #[.int .i64 x.f0, .int .i64 x.f1, .string x.f2, v]) ∧ Kd.R k25 25 w' w.heap.size (fun k => k ≠ b) v x.f3) ∧ RdAt b s q w' ∧ p ≤ q ∧ q ≤ s.size
  | .bad p e0 => e = .panicked (wrongP (p : Int) (e0 : Int))
end Go.Proofs.Ytjelpapcboiimaa.PCellPuts
