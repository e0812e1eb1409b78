/-
  No cell of these rows narrows 'for every input' (looked for: loops, veiled, ifaces, maps, wideKeys, modest, calm, conditions, laid).
  DERIVED. THE GIVEN ROWS OF THIS SEAT. 5 by the template 'for every input the law returns true; each argument reads behind the call as it read before'; 0 by the template 'total and deterministic' (their statements: YtjifdmfoijoekaaTotals.lean).
  GIVEN WITH THE SEED: the statements are not yours to turn. If you find one false, say at which input.
  Laid BY PROGRAM, IN A SANDBOX (cutbox-rows.mjs): the forced cells as the released guide's own fill.sh prints them over the translation ebdf781c23a8e0be… (all of the seat's roots in one cut). By AI agents, Wed Nov 11 2026. No macro, syntax, notation, axiom, sorry.
-/
import Derived.Test.YtjifdmfoijoekaaChecked
import GoSem.Claim
import GoSem.ClaimJoined
import GoSem.ClaimMapViews
import Derived.JoinedTies
import Derived.KernelRfl
namespace Go.Proofs.Ytjifdmfoijoekaa
/- THE CELL 'sum', in the pinned program and in every row, IS THE sha256 OF THE DUMP (.gsa) THAT YtjifdmfoijoekaaProg.lean LOADS. Nothing in Lean hashes anything: it is a label: what it is worth is what the hold of that sum in a sandbox is worth. -/
noncomputable def Try.pinned : Pinned := { name := "ytjifdmfoijoekaa", sum := "ebdf781c23a8e0be18c7e19c1aeeb4928d020cba0f2622c8b32cd7c313eb4e1b", checked := Try.checked }
namespace Rows
def none {H : Type} : Left H := { results := [], args := [] }

/-- 'cayleylaw35.PuzzleBalls': WHATEVER THE INPUT: true; the input reads as it did. -/
def puzzleBallsSpec : ChangeSpec := { name := "puzzleBalls", fn := fun _ => fun
  | [d1, d2] => { results := [.lit (.bool true)], args := [d1, d2] }
  | _ => none }
def puzzleBallsRow : OpenClaim := { program := "ytjifdmfoijoekaa", sum := "ebdf781c23a8e0be18c7e19c1aeeb4928d020cba0f2622c8b32cd7c313eb4e1b", func := "cayley/cayleylaw35.PuzzleBalls", spec := "puzzleBalls", unfollowed := true, recurses := true, plainKeys := false, apart := false }
def PuzzleBallsSaid : Prop := puzzleBallsRow.holds Try.pinned (OpenSpec.ofChange puzzleBallsSpec)

/-- ITS FALSE NEIGHBOUR: 'it returns false'. Refute it at one input. -/
def puzzleBallsWrong : ChangeSpec := { name := "puzzleBalls", fn := fun _ => fun
  | [d1, d2] => { results := [.lit (.bool false)], args := [d1, d2] }
  | _ => none }
def PuzzleBallsWrongFalsely : Prop := puzzleBallsRow.holds Try.pinned (OpenSpec.ofChange puzzleBallsWrong)

/-- 'cayleylaw35.PuzzleMoves': WHATEVER THE INPUT: true; the input reads as it did. -/
def puzzleMovesSpec : ChangeSpec := { name := "puzzleMoves", fn := fun _ => fun
  | [d1, d2, d3] => { results := [.lit (.bool true)], args := [d1, d2, d3] }
  | _ => none }
def puzzleMovesRow : OpenClaim := { program := "ytjifdmfoijoekaa", sum := "ebdf781c23a8e0be18c7e19c1aeeb4928d020cba0f2622c8b32cd7c313eb4e1b", func := "cayley/cayleylaw35.PuzzleMoves", spec := "puzzleMoves", unfollowed := true, recurses := true, plainKeys := false, apart := false }
def PuzzleMovesSaid : Prop := puzzleMovesRow.holds Try.pinned (OpenSpec.ofChange puzzleMovesSpec)

/-- ITS FALSE NEIGHBOUR: 'it returns false'. Refute it at one input. -/
def puzzleMovesWrong : ChangeSpec := { name := "puzzleMoves", fn := fun _ => fun
  | [d1, d2, d3] => { results := [.lit (.bool false)], args := [d1, d2, d3] }
  | _ => none }
def PuzzleMovesWrongFalsely : Prop := puzzleMovesRow.holds Try.pinned (OpenSpec.ofChange puzzleMovesWrong)

/-- 'cayleylaw35.PuzzleSolves': WHATEVER THE INPUT: true; the input reads as it did. -/
def puzzleSolvesSpec : ChangeSpec := { name := "puzzleSolves", fn := fun _ => fun
  | [d1, d2, d3] => { results := [.lit (.bool true)], args := [d1, d2, d3] }
  | _ => none }
def puzzleSolvesRow : OpenClaim := { program := "ytjifdmfoijoekaa", sum := "ebdf781c23a8e0be18c7e19c1aeeb4928d020cba0f2622c8b32cd7c313eb4e1b", func := "cayley/cayleylaw35.PuzzleSolves", spec := "puzzleSolves", unfollowed := true, recurses := true, plainKeys := false, apart := false }
def PuzzleSolvesSaid : Prop := puzzleSolvesRow.holds Try.pinned (OpenSpec.ofChange puzzleSolvesSpec)

/-- ITS FALSE NEIGHBOUR: 'it returns false'. Refute it at one input. -/
def puzzleSolvesWrong : ChangeSpec := { name := "puzzleSolves", fn := fun _ => fun
  | [d1, d2, d3] => { results := [.lit (.bool false)], args := [d1, d2, d3] }
  | _ => none }
def PuzzleSolvesWrongFalsely : Prop := puzzleSolvesRow.holds Try.pinned (OpenSpec.ofChange puzzleSolvesWrong)

/-- 'cayleylaw35.PuzzleKnown': WHATEVER THE INPUT: true; the input reads as it did. -/
def puzzleKnownSpec : ChangeSpec := { name := "puzzleKnown", fn := fun _ => fun
  | [] => { results := [.lit (.bool true)], args := [] }
  | _ => none }
def puzzleKnownRow : OpenClaim := { program := "ytjifdmfoijoekaa", sum := "ebdf781c23a8e0be18c7e19c1aeeb4928d020cba0f2622c8b32cd7c313eb4e1b", func := "cayley/cayleylaw35.PuzzleKnown", spec := "puzzleKnown", unfollowed := true, recurses := true, plainKeys := false, apart := false }
def PuzzleKnownSaid : Prop := puzzleKnownRow.holds Try.pinned (OpenSpec.ofChange puzzleKnownSpec)

/-- ITS FALSE NEIGHBOUR: 'it returns false'. Refute it at one input. -/
def puzzleKnownWrong : ChangeSpec := { name := "puzzleKnown", fn := fun _ => fun
  | [] => { results := [.lit (.bool false)], args := [] }
  | _ => none }
def PuzzleKnownWrongFalsely : Prop := puzzleKnownRow.holds Try.pinned (OpenSpec.ofChange puzzleKnownWrong)

/-- 'cayleylaw35.PuzzleWords': WHATEVER THE INPUT: true; the input reads as it did. -/
def puzzleWordsSpec : ChangeSpec := { name := "puzzleWords", fn := fun _ => fun
  | [d1, d2] => { results := [.lit (.bool true)], args := [d1, d2] }
  | _ => none }
def puzzleWordsRow : OpenClaim := { program := "ytjifdmfoijoekaa", sum := "ebdf781c23a8e0be18c7e19c1aeeb4928d020cba0f2622c8b32cd7c313eb4e1b", func := "cayley/cayleylaw35.PuzzleWords", spec := "puzzleWords", unfollowed := true, recurses := true, plainKeys := false, apart := false }
def PuzzleWordsSaid : Prop := puzzleWordsRow.holds Try.pinned (OpenSpec.ofChange puzzleWordsSpec)

/-- ITS FALSE NEIGHBOUR: 'it returns false'. Refute it at one input. -/
def puzzleWordsWrong : ChangeSpec := { name := "puzzleWords", fn := fun _ => fun
  | [d1, d2] => { results := [.lit (.bool false)], args := [d1, d2] }
  | _ => none }
def PuzzleWordsWrongFalsely : Prop := puzzleWordsRow.holds Try.pinned (OpenSpec.ofChange puzzleWordsWrong)

/- THE SECOND FORM. 'bulk': how many values and letters a reading holds, each counted each time it is reached (what is shared counts as often as it is met; a slice's spare places count too). A statement '..UptoSaid' is the law's where the arguments, and the package variables that the reading takes, are together of bulk at most 1048576: NARROWER than '..Said'. Prove '..Said' where nothing that the law and all that it calls make is longer than what came in: it says more and counts as full. Else prove '..UptoSaid'. A law counts once. -/
mutual
def uptoBulk {H : Type} : DataW H → Nat
  | .lit (.string bytes) => bytes.length + 1
  | .lit _ => 1
  | .nil => 1
  | .ptr d => uptoBulk d + 1
  | .slice elems spare => uptoBulkAll elems + uptoBulkAll spare + 1
  | .agg parts => uptoBulkAll parts + 1
  | .iface _ d => uptoBulk d + 1
  | .map entries => uptoBulkEntries entries + 1
  | .held _ => 1
def uptoBulkAll {H : Type} : List (DataW H) → Nat
  | [] => 0
  | d :: r => uptoBulk d + uptoBulkAll r
def uptoBulkEntries {H : Type} : List (Lit × DataW H) → Nat
  | [] => 0
  | x :: r => uptoBulkEntry x + uptoBulkEntries r
def uptoBulkEntry {H : Type} : Lit × DataW H → Nat
  | (.string bytes, d) => bytes.length + uptoBulk d + 1
  | (_, d) => uptoBulk d + 1
 end
def uptoSmall : (H : Type) → List (DataW H) → Bool := fun _ ds => decide (uptoBulkAll ds ≤ 1048576)
def OpenSpec.upto (s : _root_.Go.ChangeSpec) : _root_.Go.OpenSpec := { _root_.Go.OpenSpec.ofChange s with cond := some uptoSmall }

/-- 'cayleylaw35.PuzzleBalls', WHERE WHAT IT READS IS OF BULK AT MOST 1048576: true; the input reads as it did. -/
def puzzleBallsUptoRow : OpenClaim := { program := "ytjifdmfoijoekaa", sum := "ebdf781c23a8e0be18c7e19c1aeeb4928d020cba0f2622c8b32cd7c313eb4e1b", func := "cayley/cayleylaw35.PuzzleBalls", spec := "puzzleBalls", unfollowed := true, recurses := true, plainKeys := false, apart := false, narrowed := true }
def PuzzleBallsUptoSaid : Prop := puzzleBallsUptoRow.holds Try.pinned (OpenSpec.upto puzzleBallsSpec)

/-- 'cayleylaw35.PuzzleMoves', WHERE WHAT IT READS IS OF BULK AT MOST 1048576: true; the input reads as it did. -/
def puzzleMovesUptoRow : OpenClaim := { program := "ytjifdmfoijoekaa", sum := "ebdf781c23a8e0be18c7e19c1aeeb4928d020cba0f2622c8b32cd7c313eb4e1b", func := "cayley/cayleylaw35.PuzzleMoves", spec := "puzzleMoves", unfollowed := true, recurses := true, plainKeys := false, apart := false, narrowed := true }
def PuzzleMovesUptoSaid : Prop := puzzleMovesUptoRow.holds Try.pinned (OpenSpec.upto puzzleMovesSpec)

/-- 'cayleylaw35.PuzzleSolves', WHERE WHAT IT READS IS OF BULK AT MOST 1048576: true; the input reads as it did. -/
def puzzleSolvesUptoRow : OpenClaim := { program := "ytjifdmfoijoekaa", sum := "ebdf781c23a8e0be18c7e19c1aeeb4928d020cba0f2622c8b32cd7c313eb4e1b", func := "cayley/cayleylaw35.PuzzleSolves", spec := "puzzleSolves", unfollowed := true, recurses := true, plainKeys := false, apart := false, narrowed := true }
def PuzzleSolvesUptoSaid : Prop := puzzleSolvesUptoRow.holds Try.pinned (OpenSpec.upto puzzleSolvesSpec)

/-- 'cayleylaw35.PuzzleKnown', WHERE WHAT IT READS IS OF BULK AT MOST 1048576: true; the input reads as it did. -/
def puzzleKnownUptoRow : OpenClaim := { program := "ytjifdmfoijoekaa", sum := "ebdf781c23a8e0be18c7e19c1aeeb4928d020cba0f2622c8b32cd7c313eb4e1b", func := "cayley/cayleylaw35.PuzzleKnown", spec := "puzzleKnown", unfollowed := true, recurses := true, plainKeys := false, apart := false, narrowed := true }
def PuzzleKnownUptoSaid : Prop := puzzleKnownUptoRow.holds Try.pinned (OpenSpec.upto puzzleKnownSpec)

/-- 'cayleylaw35.PuzzleWords', WHERE WHAT IT READS IS OF BULK AT MOST 1048576: true; the input reads as it did. -/
def puzzleWordsUptoRow : OpenClaim := { program := "ytjifdmfoijoekaa", sum := "ebdf781c23a8e0be18c7e19c1aeeb4928d020cba0f2622c8b32cd7c313eb4e1b", func := "cayley/cayleylaw35.PuzzleWords", spec := "puzzleWords", unfollowed := true, recurses := true, plainKeys := false, apart := false, narrowed := true }
def PuzzleWordsUptoSaid : Prop := puzzleWordsUptoRow.holds Try.pinned (OpenSpec.upto puzzleWordsSpec)

end Rows
end Go.Proofs.Ytjifdmfoijoekaa
