/-
  No cell of these rows narrows 'for every input' (looked for: loops, veiled, ifaces, maps, wideKeys, modest, calm, conditions, laid).
  DERIVED. THE GIVEN ROWS OF THIS SEAT. 8 by the template 'for every input the law returns true; each argument reads behind the call as it read before'; 0 by the template 'total and deterministic' (their statements: YtcbonaeaemclnaaTotals.lean).
  GIVEN WITH THE SEED: the statements are not yours to turn. If you find one false, say at which input.
  Laid BY PROGRAM, IN A SANDBOX (cutbox-rows.mjs): the forced cells as the released guide's own fill.sh prints them over the translation ef88ad274484f879… (all of the seat's roots in one cut). By AI agents, Wed Nov 11 2026. No macro, syntax, notation, axiom, sorry.
-/
import Derived.Test.YtcbonaeaemclnaaChecked
import GoSem.Claim
import GoSem.ClaimJoined
import GoSem.ClaimMapViews
import Derived.JoinedTies
import Derived.KernelRfl
namespace Go.Proofs.Ytcbonaeaemclnaa
/- THE CELL 'sum', in the pinned program and in every row, IS THE sha256 OF THE DUMP (.gsa) THAT YtcbonaeaemclnaaProg.lean LOADS. Nothing in Lean hashes anything: it is a label: what it is worth is what the hold of that sum in a sandbox is worth. -/
noncomputable def Try.pinned : Pinned := { name := "ytcbonaeaemclnaa", sum := "ef88ad274484f87928d80aab250643f6df233716520df7a6eb6017dc14c6b8fb", checked := Try.checked }
namespace Rows
def none {H : Type} : Left H := { results := [], args := [] }

/-- 'cayleylaw03.PrimeSuits': WHATEVER THE INPUT: true; the input reads as it did. -/
def primeSuitsSpec : ChangeSpec := { name := "primeSuits", fn := fun _ => fun
  | [d1, d2] => { results := [.lit (.bool true)], args := [d1, d2] }
  | _ => none }
def primeSuitsRow : OpenClaim := { program := "ytcbonaeaemclnaa", sum := "ef88ad274484f87928d80aab250643f6df233716520df7a6eb6017dc14c6b8fb", func := "cayley/cayleylaw03.PrimeSuits", spec := "primeSuits", unfollowed := true, recurses := true, apart := false }
def PrimeSuitsSaid : Prop := primeSuitsRow.holds Try.pinned (OpenSpec.ofChange primeSuitsSpec)

/-- ITS FALSE NEIGHBOUR: 'it returns false'. Refute it at one input. -/
def primeSuitsWrong : ChangeSpec := { name := "primeSuits", fn := fun _ => fun
  | [d1, d2] => { results := [.lit (.bool false)], args := [d1, d2] }
  | _ => none }
def PrimeSuitsWrongFalsely : Prop := primeSuitsRow.holds Try.pinned (OpenSpec.ofChange primeSuitsWrong)

/-- 'cayleylaw03.PrimeTests': WHATEVER THE INPUT: true; the input reads as it did. -/
def primeTestsSpec : ChangeSpec := { name := "primeTests", fn := fun _ => fun
  | [d] => { results := [.lit (.bool true)], args := [d] }
  | _ => none }
def primeTestsRow : OpenClaim := { program := "ytcbonaeaemclnaa", sum := "ef88ad274484f87928d80aab250643f6df233716520df7a6eb6017dc14c6b8fb", func := "cayley/cayleylaw03.PrimeTests", spec := "primeTests", unfollowed := true, recurses := true, apart := false }
def PrimeTestsSaid : Prop := primeTestsRow.holds Try.pinned (OpenSpec.ofChange primeTestsSpec)

/-- ITS FALSE NEIGHBOUR: 'it returns false'. Refute it at one input. -/
def primeTestsWrong : ChangeSpec := { name := "primeTests", fn := fun _ => fun
  | [d] => { results := [.lit (.bool false)], args := [d] }
  | _ => none }
def PrimeTestsWrongFalsely : Prop := primeTestsRow.holds Try.pinned (OpenSpec.ofChange primeTestsWrong)

/-- 'cayleylaw03.PrimeFactors': WHATEVER THE INPUT: true; the input reads as it did. -/
def primeFactorsSpec : ChangeSpec := { name := "primeFactors", fn := fun _ => fun
  | [d1, d2] => { results := [.lit (.bool true)], args := [d1, d2] }
  | _ => none }
def primeFactorsRow : OpenClaim := { program := "ytcbonaeaemclnaa", sum := "ef88ad274484f87928d80aab250643f6df233716520df7a6eb6017dc14c6b8fb", func := "cayley/cayleylaw03.PrimeFactors", spec := "primeFactors", unfollowed := true, recurses := true, apart := false }
def PrimeFactorsSaid : Prop := primeFactorsRow.holds Try.pinned (OpenSpec.ofChange primeFactorsSpec)

/-- ITS FALSE NEIGHBOUR: 'it returns false'. Refute it at one input. -/
def primeFactorsWrong : ChangeSpec := { name := "primeFactors", fn := fun _ => fun
  | [d1, d2] => { results := [.lit (.bool false)], args := [d1, d2] }
  | _ => none }
def PrimeFactorsWrongFalsely : Prop := primeFactorsRow.holds Try.pinned (OpenSpec.ofChange primeFactorsWrong)

/-- 'cayleylaw03.PrimeSquares': WHATEVER THE INPUT: true; the input reads as it did. -/
def primeSquaresSpec : ChangeSpec := { name := "primeSquares", fn := fun _ => fun
  | [d1, d2, d3] => { results := [.lit (.bool true)], args := [d1, d2, d3] }
  | _ => none }
def primeSquaresRow : OpenClaim := { program := "ytcbonaeaemclnaa", sum := "ef88ad274484f87928d80aab250643f6df233716520df7a6eb6017dc14c6b8fb", func := "cayley/cayleylaw03.PrimeSquares", spec := "primeSquares", unfollowed := true, recurses := true, apart := false }
def PrimeSquaresSaid : Prop := primeSquaresRow.holds Try.pinned (OpenSpec.ofChange primeSquaresSpec)

/-- ITS FALSE NEIGHBOUR: 'it returns false'. Refute it at one input. -/
def primeSquaresWrong : ChangeSpec := { name := "primeSquares", fn := fun _ => fun
  | [d1, d2, d3] => { results := [.lit (.bool false)], args := [d1, d2, d3] }
  | _ => none }
def PrimeSquaresWrongFalsely : Prop := primeSquaresRow.holds Try.pinned (OpenSpec.ofChange primeSquaresWrong)

/-- 'cayleylaw03.PrimeField': WHATEVER THE INPUT: true; the input reads as it did. -/
def primeFieldSpec : ChangeSpec := { name := "primeField", fn := fun _ => fun
  | [d1, d2, d3, d4, d5] => { results := [.lit (.bool true)], args := [d1, d2, d3, d4, d5] }
  | _ => none }
def primeFieldRow : OpenClaim := { program := "ytcbonaeaemclnaa", sum := "ef88ad274484f87928d80aab250643f6df233716520df7a6eb6017dc14c6b8fb", func := "cayley/cayleylaw03.PrimeField", spec := "primeField", unfollowed := true, recurses := true, apart := false }
def PrimeFieldSaid : Prop := primeFieldRow.holds Try.pinned (OpenSpec.ofChange primeFieldSpec)

/-- ITS FALSE NEIGHBOUR: 'it returns false'. Refute it at one input. -/
def primeFieldWrong : ChangeSpec := { name := "primeField", fn := fun _ => fun
  | [d1, d2, d3, d4, d5] => { results := [.lit (.bool false)], args := [d1, d2, d3, d4, d5] }
  | _ => none }
def PrimeFieldWrongFalsely : Prop := primeFieldRow.holds Try.pinned (OpenSpec.ofChange primeFieldWrong)

/-- 'cayleylaw03.PrimeLogs': WHATEVER THE INPUT: true; the input reads as it did. -/
def primeLogsSpec : ChangeSpec := { name := "primeLogs", fn := fun _ => fun
  | [d1, d2, d3, d4] => { results := [.lit (.bool true)], args := [d1, d2, d3, d4] }
  | _ => none }
def primeLogsRow : OpenClaim := { program := "ytcbonaeaemclnaa", sum := "ef88ad274484f87928d80aab250643f6df233716520df7a6eb6017dc14c6b8fb", func := "cayley/cayleylaw03.PrimeLogs", spec := "primeLogs", unfollowed := true, recurses := true, apart := false }
def PrimeLogsSaid : Prop := primeLogsRow.holds Try.pinned (OpenSpec.ofChange primeLogsSpec)

/-- ITS FALSE NEIGHBOUR: 'it returns false'. Refute it at one input. -/
def primeLogsWrong : ChangeSpec := { name := "primeLogs", fn := fun _ => fun
  | [d1, d2, d3, d4] => { results := [.lit (.bool false)], args := [d1, d2, d3, d4] }
  | _ => none }
def PrimeLogsWrongFalsely : Prop := primeLogsRow.holds Try.pinned (OpenSpec.ofChange primeLogsWrong)

/-- 'cayleylaw03.PrimeCalls': WHATEVER THE INPUT: true; the input reads as it did. -/
def primeCallsSpec : ChangeSpec := { name := "primeCalls", fn := fun _ => fun
  | [d1, d2, d3] => { results := [.lit (.bool true)], args := [d1, d2, d3] }
  | _ => none }
def primeCallsRow : OpenClaim := { program := "ytcbonaeaemclnaa", sum := "ef88ad274484f87928d80aab250643f6df233716520df7a6eb6017dc14c6b8fb", func := "cayley/cayleylaw03.PrimeCalls", spec := "primeCalls", unfollowed := true, recurses := true, apart := false }
def PrimeCallsSaid : Prop := primeCallsRow.holds Try.pinned (OpenSpec.ofChange primeCallsSpec)

/-- ITS FALSE NEIGHBOUR: 'it returns false'. Refute it at one input. -/
def primeCallsWrong : ChangeSpec := { name := "primeCalls", fn := fun _ => fun
  | [d1, d2, d3] => { results := [.lit (.bool false)], args := [d1, d2, d3] }
  | _ => none }
def PrimeCallsWrongFalsely : Prop := primeCallsRow.holds Try.pinned (OpenSpec.ofChange primeCallsWrong)

/-- 'cayleylaw03.PrimeNames': WHATEVER THE INPUT: true; the input reads as it did. -/
def primeNamesSpec : ChangeSpec := { name := "primeNames", fn := fun _ => fun
  | [] => { results := [.lit (.bool true)], args := [] }
  | _ => none }
def primeNamesRow : OpenClaim := { program := "ytcbonaeaemclnaa", sum := "ef88ad274484f87928d80aab250643f6df233716520df7a6eb6017dc14c6b8fb", func := "cayley/cayleylaw03.PrimeNames", spec := "primeNames", unfollowed := true, recurses := true, apart := false }
def PrimeNamesSaid : Prop := primeNamesRow.holds Try.pinned (OpenSpec.ofChange primeNamesSpec)

/-- ITS FALSE NEIGHBOUR: 'it returns false'. Refute it at one input. -/
def primeNamesWrong : ChangeSpec := { name := "primeNames", fn := fun _ => fun
  | [] => { results := [.lit (.bool false)], args := [] }
  | _ => none }
def PrimeNamesWrongFalsely : Prop := primeNamesRow.holds Try.pinned (OpenSpec.ofChange primeNamesWrong)

/- THE SECOND FORM. 'bulk': how many values and letters a reading holds, each counted each time it is reached (what is shared counts as often as it is met; a slice's spare places count too). A statement '..UptoSaid' is the law's where the arguments, and the package variables that the reading takes, are together of bulk at most 1048576: NARROWER than '..Said'. Prove '..Said' where nothing that the law and all that it calls make is longer than what came in: it says more and counts as full. Else prove '..UptoSaid'. A law counts once. -/
mutual
def uptoBulk {H : Type} : DataW H → Nat
  | .lit (.string bytes) => bytes.length + 1
  | .lit _ => 1
  | .nil => 1
  | .ptr d => uptoBulk d + 1
  | .slice elems spare => uptoBulkAll elems + uptoBulkAll spare + 1
  | .agg parts => uptoBulkAll parts + 1
  | .iface _ d => uptoBulk d + 1
  | .map entries => uptoBulkEntries entries + 1
  | .held _ => 1
def uptoBulkAll {H : Type} : List (DataW H) → Nat
  | [] => 0
  | d :: r => uptoBulk d + uptoBulkAll r
def uptoBulkEntries {H : Type} : List (Lit × DataW H) → Nat
  | [] => 0
  | x :: r => uptoBulkEntry x + uptoBulkEntries r
def uptoBulkEntry {H : Type} : Lit × DataW H → Nat
  | (.string bytes, d) => bytes.length + uptoBulk d + 1
  | (_, d) => uptoBulk d + 1
 end
def uptoSmall : (H : Type) → List (DataW H) → Bool := fun _ ds => decide (uptoBulkAll ds ≤ 1048576)
def OpenSpec.upto (s : _root_.Go.ChangeSpec) : _root_.Go.OpenSpec := { _root_.Go.OpenSpec.ofChange s with cond := some uptoSmall }

/-- 'cayleylaw03.PrimeSuits', WHERE WHAT IT READS IS OF BULK AT MOST 1048576: true; the input reads as it did. -/
def primeSuitsUptoRow : OpenClaim := { program := "ytcbonaeaemclnaa", sum := "ef88ad274484f87928d80aab250643f6df233716520df7a6eb6017dc14c6b8fb", func := "cayley/cayleylaw03.PrimeSuits", spec := "primeSuits", unfollowed := true, recurses := true, apart := false, narrowed := true }
def PrimeSuitsUptoSaid : Prop := primeSuitsUptoRow.holds Try.pinned (OpenSpec.upto primeSuitsSpec)

/-- 'cayleylaw03.PrimeTests', WHERE WHAT IT READS IS OF BULK AT MOST 1048576: true; the input reads as it did. -/
def primeTestsUptoRow : OpenClaim := { program := "ytcbonaeaemclnaa", sum := "ef88ad274484f87928d80aab250643f6df233716520df7a6eb6017dc14c6b8fb", func := "cayley/cayleylaw03.PrimeTests", spec := "primeTests", unfollowed := true, recurses := true, apart := false, narrowed := true }
def PrimeTestsUptoSaid : Prop := primeTestsUptoRow.holds Try.pinned (OpenSpec.upto primeTestsSpec)

/-- 'cayleylaw03.PrimeFactors', WHERE WHAT IT READS IS OF BULK AT MOST 1048576: true; the input reads as it did. -/
def primeFactorsUptoRow : OpenClaim := { program := "ytcbonaeaemclnaa", sum := "ef88ad274484f87928d80aab250643f6df233716520df7a6eb6017dc14c6b8fb", func := "cayley/cayleylaw03.PrimeFactors", spec := "primeFactors", unfollowed := true, recurses := true, apart := false, narrowed := true }
def PrimeFactorsUptoSaid : Prop := primeFactorsUptoRow.holds Try.pinned (OpenSpec.upto primeFactorsSpec)

/-- 'cayleylaw03.PrimeSquares', WHERE WHAT IT READS IS OF BULK AT MOST 1048576: true; the input reads as it did. -/
def primeSquaresUptoRow : OpenClaim := { program := "ytcbonaeaemclnaa", sum := "ef88ad274484f87928d80aab250643f6df233716520df7a6eb6017dc14c6b8fb", func := "cayley/cayleylaw03.PrimeSquares", spec := "primeSquares", unfollowed := true, recurses := true, apart := false, narrowed := true }
def PrimeSquaresUptoSaid : Prop := primeSquaresUptoRow.holds Try.pinned (OpenSpec.upto primeSquaresSpec)

/-- 'cayleylaw03.PrimeField', WHERE WHAT IT READS IS OF BULK AT MOST 1048576: true; the input reads as it did. -/
def primeFieldUptoRow : OpenClaim := { program := "ytcbonaeaemclnaa", sum := "ef88ad274484f87928d80aab250643f6df233716520df7a6eb6017dc14c6b8fb", func := "cayley/cayleylaw03.PrimeField", spec := "primeField", unfollowed := true, recurses := true, apart := false, narrowed := true }
def PrimeFieldUptoSaid : Prop := primeFieldUptoRow.holds Try.pinned (OpenSpec.upto primeFieldSpec)

/-- 'cayleylaw03.PrimeLogs', WHERE WHAT IT READS IS OF BULK AT MOST 1048576: true; the input reads as it did. -/
def primeLogsUptoRow : OpenClaim := { program := "ytcbonaeaemclnaa", sum := "ef88ad274484f87928d80aab250643f6df233716520df7a6eb6017dc14c6b8fb", func := "cayley/cayleylaw03.PrimeLogs", spec := "primeLogs", unfollowed := true, recurses := true, apart := false, narrowed := true }
def PrimeLogsUptoSaid : Prop := primeLogsUptoRow.holds Try.pinned (OpenSpec.upto primeLogsSpec)

/-- 'cayleylaw03.PrimeCalls', WHERE WHAT IT READS IS OF BULK AT MOST 1048576: true; the input reads as it did. -/
def primeCallsUptoRow : OpenClaim := { program := "ytcbonaeaemclnaa", sum := "ef88ad274484f87928d80aab250643f6df233716520df7a6eb6017dc14c6b8fb", func := "cayley/cayleylaw03.PrimeCalls", spec := "primeCalls", unfollowed := true, recurses := true, apart := false, narrowed := true }
def PrimeCallsUptoSaid : Prop := primeCallsUptoRow.holds Try.pinned (OpenSpec.upto primeCallsSpec)

/-- 'cayleylaw03.PrimeNames', WHERE WHAT IT READS IS OF BULK AT MOST 1048576: true; the input reads as it did. -/
def primeNamesUptoRow : OpenClaim := { program := "ytcbonaeaemclnaa", sum := "ef88ad274484f87928d80aab250643f6df233716520df7a6eb6017dc14c6b8fb", func := "cayley/cayleylaw03.PrimeNames", spec := "primeNames", unfollowed := true, recurses := true, apart := false, narrowed := true }
def PrimeNamesUptoSaid : Prop := primeNamesUptoRow.holds Try.pinned (OpenSpec.upto primeNamesSpec)

end Rows
end Go.Proofs.Ytcbonaeaemclnaa
