/-
  No cell of these rows narrows 'for every input' (looked for: loops, veiled, ifaces, maps, wideKeys, modest, calm, conditions, laid).
  DERIVED. THE GIVEN ROWS OF THIS SEAT. 9 by the template 'for every input the law returns true; each argument reads behind the call as it read before'; 0 by the template 'total and deterministic' (their statements: YtjnbdikhajnciaaTotals.lean).
  GIVEN WITH THE SEED: the statements are not yours to turn. If you find one false, say at which input.
  Laid BY PROGRAM, IN A SANDBOX (cutbox-rows.mjs): the forced cells as the released guide's own fill.sh prints them over the translation 932b0de3918fe8aa… (all of the seat's roots in one cut). By AI agents, Wed Nov 11 2026. No macro, syntax, notation, axiom, sorry.
-/
import Derived.Test.YtjnbdikhajnciaaChecked
import GoSem.Claim
import GoSem.ClaimJoined
import GoSem.ClaimMapViews
import Derived.JoinedTies
import Derived.KernelRfl
namespace Go.Proofs.Ytjnbdikhajnciaa
/- THE CELL 'sum', in the pinned program and in every row, IS THE sha256 OF THE DUMP (.gsa) THAT YtjnbdikhajnciaaProg.lean LOADS. Nothing in Lean hashes anything: it is a label: what it is worth is what the hold of that sum in a sandbox is worth. -/
noncomputable def Try.pinned : Pinned := { name := "ytjnbdikhajnciaa", sum := "932b0de3918fe8aabddde69c58ee926e9cbd0f052fed2975bacc04842fc37e7f", checked := Try.checked }
namespace Rows
def none {H : Type} : Left H := { results := [], args := [] }

/-- 'fastilaw03.DigestSums': WHATEVER THE INPUT: true; the input reads as it did. -/
def digestSumsSpec : ChangeSpec := { name := "digestSums", fn := fun _ => fun
  | [d] => { results := [.lit (.bool true)], args := [d] }
  | _ => none }
def digestSumsRow : OpenClaim := { program := "ytjnbdikhajnciaa", sum := "932b0de3918fe8aabddde69c58ee926e9cbd0f052fed2975bacc04842fc37e7f", func := "fasti/fastilaw03.DigestSums", spec := "digestSums", apart := false }
def DigestSumsSaid : Prop := digestSumsRow.holds Try.pinned (OpenSpec.ofChange digestSumsSpec)

/-- ITS FALSE NEIGHBOUR: 'it returns false'. Refute it at one input. -/
def digestSumsWrong : ChangeSpec := { name := "digestSums", fn := fun _ => fun
  | [d] => { results := [.lit (.bool false)], args := [d] }
  | _ => none }
def DigestSumsWrongFalsely : Prop := digestSumsRow.holds Try.pinned (OpenSpec.ofChange digestSumsWrong)

/-- 'fastilaw03.DigestPieces': WHATEVER THE INPUT: true; the input reads as it did. -/
def digestPiecesSpec : ChangeSpec := { name := "digestPieces", fn := fun _ => fun
  | [d] => { results := [.lit (.bool true)], args := [d] }
  | _ => none }
def digestPiecesRow : OpenClaim := { program := "ytjnbdikhajnciaa", sum := "932b0de3918fe8aabddde69c58ee926e9cbd0f052fed2975bacc04842fc37e7f", func := "fasti/fastilaw03.DigestPieces", spec := "digestPieces", apart := false }
def DigestPiecesSaid : Prop := digestPiecesRow.holds Try.pinned (OpenSpec.ofChange digestPiecesSpec)

/-- ITS FALSE NEIGHBOUR: 'it returns false'. Refute it at one input. -/
def digestPiecesWrong : ChangeSpec := { name := "digestPieces", fn := fun _ => fun
  | [d] => { results := [.lit (.bool false)], args := [d] }
  | _ => none }
def DigestPiecesWrongFalsely : Prop := digestPiecesRow.holds Try.pinned (OpenSpec.ofChange digestPiecesWrong)

/-- 'fastilaw03.DigestNil': WHATEVER THE INPUT: true; the input reads as it did. -/
def digestNilSpec : ChangeSpec := { name := "digestNil", fn := fun _ => fun
  | [d1, d2] => { results := [.lit (.bool true)], args := [d1, d2] }
  | _ => none }
def digestNilRow : OpenClaim := { program := "ytjnbdikhajnciaa", sum := "932b0de3918fe8aabddde69c58ee926e9cbd0f052fed2975bacc04842fc37e7f", func := "fasti/fastilaw03.DigestNil", spec := "digestNil", apart := false }
def DigestNilSaid : Prop := digestNilRow.holds Try.pinned (OpenSpec.ofChange digestNilSpec)

/-- ITS FALSE NEIGHBOUR: 'it returns false'. Refute it at one input. -/
def digestNilWrong : ChangeSpec := { name := "digestNil", fn := fun _ => fun
  | [d1, d2] => { results := [.lit (.bool false)], args := [d1, d2] }
  | _ => none }
def DigestNilWrongFalsely : Prop := digestNilRow.holds Try.pinned (OpenSpec.ofChange digestNilWrong)

/-- 'fastilaw05.DrumFuse': WHATEVER THE INPUT: true; the input reads as it did. -/
def drumFuseSpec : ChangeSpec := { name := "drumFuse", fn := fun _ => fun
  | [d1, d2, d3] => { results := [.lit (.bool true)], args := [d1, d2, d3] }
  | _ => none }
def drumFuseRow : OpenClaim := { program := "ytjnbdikhajnciaa", sum := "932b0de3918fe8aabddde69c58ee926e9cbd0f052fed2975bacc04842fc37e7f", func := "fasti/fastilaw05.DrumFuse", spec := "drumFuse", unfollowed := true, recurses := true, apart := false }
def DrumFuseSaid : Prop := drumFuseRow.holds Try.pinned (OpenSpec.ofChange drumFuseSpec)

/-- ITS FALSE NEIGHBOUR: 'it returns false'. Refute it at one input. -/
def drumFuseWrong : ChangeSpec := { name := "drumFuse", fn := fun _ => fun
  | [d1, d2, d3] => { results := [.lit (.bool false)], args := [d1, d2, d3] }
  | _ => none }
def DrumFuseWrongFalsely : Prop := drumFuseRow.holds Try.pinned (OpenSpec.ofChange drumFuseWrong)

/-- 'fastilaw03.DigestHexes': WHATEVER THE INPUT: true; the input reads as it did. -/
def digestHexesSpec : ChangeSpec := { name := "digestHexes", fn := fun _ => fun
  | [d] => { results := [.lit (.bool true)], args := [d] }
  | _ => none }
def digestHexesRow : OpenClaim := { program := "ytjnbdikhajnciaa", sum := "932b0de3918fe8aabddde69c58ee926e9cbd0f052fed2975bacc04842fc37e7f", func := "fasti/fastilaw03.DigestHexes", spec := "digestHexes", apart := false }
def DigestHexesSaid : Prop := digestHexesRow.holds Try.pinned (OpenSpec.ofChange digestHexesSpec)

/-- ITS FALSE NEIGHBOUR: 'it returns false'. Refute it at one input. -/
def digestHexesWrong : ChangeSpec := { name := "digestHexes", fn := fun _ => fun
  | [d] => { results := [.lit (.bool false)], args := [d] }
  | _ => none }
def DigestHexesWrongFalsely : Prop := digestHexesRow.holds Try.pinned (OpenSpec.ofChange digestHexesWrong)

/-- 'fastilaw03.DigestBack': WHATEVER THE INPUT: true; the input reads as it did. -/
def digestBackSpec : ChangeSpec := { name := "digestBack", fn := fun _ => fun
  | [d] => { results := [.lit (.bool true)], args := [d] }
  | _ => none }
def digestBackRow : OpenClaim := { program := "ytjnbdikhajnciaa", sum := "932b0de3918fe8aabddde69c58ee926e9cbd0f052fed2975bacc04842fc37e7f", func := "fasti/fastilaw03.DigestBack", spec := "digestBack", apart := false }
def DigestBackSaid : Prop := digestBackRow.holds Try.pinned (OpenSpec.ofChange digestBackSpec)

/-- ITS FALSE NEIGHBOUR: 'it returns false'. Refute it at one input. -/
def digestBackWrong : ChangeSpec := { name := "digestBack", fn := fun _ => fun
  | [d] => { results := [.lit (.bool false)], args := [d] }
  | _ => none }
def DigestBackWrongFalsely : Prop := digestBackRow.holds Try.pinned (OpenSpec.ofChange digestBackWrong)

/-- 'fastilaw05.DrumStays': WHATEVER THE INPUT: true; the input reads as it did. -/
def drumStaysSpec : ChangeSpec := { name := "drumStays", fn := fun _ => fun
  | [d1, d2, d3] => { results := [.lit (.bool true)], args := [d1, d2, d3] }
  | _ => none }
def drumStaysRow : OpenClaim := { program := "ytjnbdikhajnciaa", sum := "932b0de3918fe8aabddde69c58ee926e9cbd0f052fed2975bacc04842fc37e7f", func := "fasti/fastilaw05.DrumStays", spec := "drumStays", unfollowed := true, recurses := true, apart := false }
def DrumStaysSaid : Prop := drumStaysRow.holds Try.pinned (OpenSpec.ofChange drumStaysSpec)

/-- ITS FALSE NEIGHBOUR: 'it returns false'. Refute it at one input. -/
def drumStaysWrong : ChangeSpec := { name := "drumStays", fn := fun _ => fun
  | [d1, d2, d3] => { results := [.lit (.bool false)], args := [d1, d2, d3] }
  | _ => none }
def DrumStaysWrongFalsely : Prop := drumStaysRow.holds Try.pinned (OpenSpec.ofChange drumStaysWrong)

/-- 'fastilaw05.DrumPlays': WHATEVER THE INPUT: true; the input reads as it did. -/
def drumPlaysSpec : ChangeSpec := { name := "drumPlays", fn := fun _ => fun
  | [d1, d2] => { results := [.lit (.bool true)], args := [d1, d2] }
  | _ => none }
def drumPlaysRow : OpenClaim := { program := "ytjnbdikhajnciaa", sum := "932b0de3918fe8aabddde69c58ee926e9cbd0f052fed2975bacc04842fc37e7f", func := "fasti/fastilaw05.DrumPlays", spec := "drumPlays", unfollowed := true, recurses := true, apart := false }
def DrumPlaysSaid : Prop := drumPlaysRow.holds Try.pinned (OpenSpec.ofChange drumPlaysSpec)

/-- ITS FALSE NEIGHBOUR: 'it returns false'. Refute it at one input. -/
def drumPlaysWrong : ChangeSpec := { name := "drumPlays", fn := fun _ => fun
  | [d1, d2] => { results := [.lit (.bool false)], args := [d1, d2] }
  | _ => none }
def DrumPlaysWrongFalsely : Prop := drumPlaysRow.holds Try.pinned (OpenSpec.ofChange drumPlaysWrong)

/-- 'fastilaw05.DrumNil': WHATEVER THE INPUT: true; the input reads as it did. -/
def drumNilSpec : ChangeSpec := { name := "drumNil", fn := fun _ => fun
  | [d1, d2, d3] => { results := [.lit (.bool true)], args := [d1, d2, d3] }
  | _ => none }
def drumNilRow : OpenClaim := { program := "ytjnbdikhajnciaa", sum := "932b0de3918fe8aabddde69c58ee926e9cbd0f052fed2975bacc04842fc37e7f", func := "fasti/fastilaw05.DrumNil", spec := "drumNil", unfollowed := true, recurses := true, apart := false }
def DrumNilSaid : Prop := drumNilRow.holds Try.pinned (OpenSpec.ofChange drumNilSpec)

/-- ITS FALSE NEIGHBOUR: 'it returns false'. Refute it at one input. -/
def drumNilWrong : ChangeSpec := { name := "drumNil", fn := fun _ => fun
  | [d1, d2, d3] => { results := [.lit (.bool false)], args := [d1, d2, d3] }
  | _ => none }
def DrumNilWrongFalsely : Prop := drumNilRow.holds Try.pinned (OpenSpec.ofChange drumNilWrong)

/- THE SECOND FORM. 'bulk': how many values and letters a reading holds, each counted each time it is reached (what is shared counts as often as it is met; a slice's spare places count too). A statement '..UptoSaid' is the law's where the arguments, and the package variables that the reading takes, are together of bulk at most 1048576: NARROWER than '..Said'. Prove '..Said' where nothing that the law and all that it calls make is longer than what came in: it says more and counts as full. Else prove '..UptoSaid'. A law counts once. -/
mutual
def uptoBulk {H : Type} : DataW H → Nat
  | .lit (.string bytes) => bytes.length + 1
  | .lit _ => 1
  | .nil => 1
  | .ptr d => uptoBulk d + 1
  | .slice elems spare => uptoBulkAll elems + uptoBulkAll spare + 1
  | .agg parts => uptoBulkAll parts + 1
  | .iface _ d => uptoBulk d + 1
  | .map entries => uptoBulkEntries entries + 1
  | .held _ => 1
def uptoBulkAll {H : Type} : List (DataW H) → Nat
  | [] => 0
  | d :: r => uptoBulk d + uptoBulkAll r
def uptoBulkEntries {H : Type} : List (Lit × DataW H) → Nat
  | [] => 0
  | x :: r => uptoBulkEntry x + uptoBulkEntries r
def uptoBulkEntry {H : Type} : Lit × DataW H → Nat
  | (.string bytes, d) => bytes.length + uptoBulk d + 1
  | (_, d) => uptoBulk d + 1
 end
def uptoSmall : (H : Type) → List (DataW H) → Bool := fun _ ds => decide (uptoBulkAll ds ≤ 1048576)
def OpenSpec.upto (s : _root_.Go.ChangeSpec) : _root_.Go.OpenSpec := { _root_.Go.OpenSpec.ofChange s with cond := some uptoSmall }

/-- 'fastilaw03.DigestSums', WHERE WHAT IT READS IS OF BULK AT MOST 1048576: true; the input reads as it did. -/
def digestSumsUptoRow : OpenClaim := { program := "ytjnbdikhajnciaa", sum := "932b0de3918fe8aabddde69c58ee926e9cbd0f052fed2975bacc04842fc37e7f", func := "fasti/fastilaw03.DigestSums", spec := "digestSums", apart := false, narrowed := true }
def DigestSumsUptoSaid : Prop := digestSumsUptoRow.holds Try.pinned (OpenSpec.upto digestSumsSpec)

/-- 'fastilaw03.DigestPieces', WHERE WHAT IT READS IS OF BULK AT MOST 1048576: true; the input reads as it did. -/
def digestPiecesUptoRow : OpenClaim := { program := "ytjnbdikhajnciaa", sum := "932b0de3918fe8aabddde69c58ee926e9cbd0f052fed2975bacc04842fc37e7f", func := "fasti/fastilaw03.DigestPieces", spec := "digestPieces", apart := false, narrowed := true }
def DigestPiecesUptoSaid : Prop := digestPiecesUptoRow.holds Try.pinned (OpenSpec.upto digestPiecesSpec)

/-- 'fastilaw03.DigestNil', WHERE WHAT IT READS IS OF BULK AT MOST 1048576: true; the input reads as it did. -/
def digestNilUptoRow : OpenClaim := { program := "ytjnbdikhajnciaa", sum := "932b0de3918fe8aabddde69c58ee926e9cbd0f052fed2975bacc04842fc37e7f", func := "fasti/fastilaw03.DigestNil", spec := "digestNil", apart := false, narrowed := true }
def DigestNilUptoSaid : Prop := digestNilUptoRow.holds Try.pinned (OpenSpec.upto digestNilSpec)

/-- 'fastilaw05.DrumFuse', WHERE WHAT IT READS IS OF BULK AT MOST 1048576: true; the input reads as it did. -/
def drumFuseUptoRow : OpenClaim := { program := "ytjnbdikhajnciaa", sum := "932b0de3918fe8aabddde69c58ee926e9cbd0f052fed2975bacc04842fc37e7f", func := "fasti/fastilaw05.DrumFuse", spec := "drumFuse", unfollowed := true, recurses := true, apart := false, narrowed := true }
def DrumFuseUptoSaid : Prop := drumFuseUptoRow.holds Try.pinned (OpenSpec.upto drumFuseSpec)

/-- 'fastilaw03.DigestHexes', WHERE WHAT IT READS IS OF BULK AT MOST 1048576: true; the input reads as it did. -/
def digestHexesUptoRow : OpenClaim := { program := "ytjnbdikhajnciaa", sum := "932b0de3918fe8aabddde69c58ee926e9cbd0f052fed2975bacc04842fc37e7f", func := "fasti/fastilaw03.DigestHexes", spec := "digestHexes", apart := false, narrowed := true }
def DigestHexesUptoSaid : Prop := digestHexesUptoRow.holds Try.pinned (OpenSpec.upto digestHexesSpec)

/-- 'fastilaw03.DigestBack', WHERE WHAT IT READS IS OF BULK AT MOST 1048576: true; the input reads as it did. -/
def digestBackUptoRow : OpenClaim := { program := "ytjnbdikhajnciaa", sum := "932b0de3918fe8aabddde69c58ee926e9cbd0f052fed2975bacc04842fc37e7f", func := "fasti/fastilaw03.DigestBack", spec := "digestBack", apart := false, narrowed := true }
def DigestBackUptoSaid : Prop := digestBackUptoRow.holds Try.pinned (OpenSpec.upto digestBackSpec)

/-- 'fastilaw05.DrumStays', WHERE WHAT IT READS IS OF BULK AT MOST 1048576: true; the input reads as it did. -/
def drumStaysUptoRow : OpenClaim := { program := "ytjnbdikhajnciaa", sum := "932b0de3918fe8aabddde69c58ee926e9cbd0f052fed2975bacc04842fc37e7f", func := "fasti/fastilaw05.DrumStays", spec := "drumStays", unfollowed := true, recurses := true, apart := false, narrowed := true }
def DrumStaysUptoSaid : Prop := drumStaysUptoRow.holds Try.pinned (OpenSpec.upto drumStaysSpec)

/-- 'fastilaw05.DrumPlays', WHERE WHAT IT READS IS OF BULK AT MOST 1048576: true; the input reads as it did. -/
def drumPlaysUptoRow : OpenClaim := { program := "ytjnbdikhajnciaa", sum := "932b0de3918fe8aabddde69c58ee926e9cbd0f052fed2975bacc04842fc37e7f", func := "fasti/fastilaw05.DrumPlays", spec := "drumPlays", unfollowed := true, recurses := true, apart := false, narrowed := true }
def DrumPlaysUptoSaid : Prop := drumPlaysUptoRow.holds Try.pinned (OpenSpec.upto drumPlaysSpec)

/-- 'fastilaw05.DrumNil', WHERE WHAT IT READS IS OF BULK AT MOST 1048576: true; the input reads as it did. -/
def drumNilUptoRow : OpenClaim := { program := "ytjnbdikhajnciaa", sum := "932b0de3918fe8aabddde69c58ee926e9cbd0f052fed2975bacc04842fc37e7f", func := "fasti/fastilaw05.DrumNil", spec := "drumNil", unfollowed := true, recurses := true, apart := false, narrowed := true }
def DrumNilUptoSaid : Prop := drumNilUptoRow.holds Try.pinned (OpenSpec.upto drumNilSpec)

end Rows
end Go.Proofs.Ytjnbdikhajnciaa
