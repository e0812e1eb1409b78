/-
  No cell of these rows narrows 'for every input' (looked for: loops, veiled, ifaces, maps, wideKeys, modest, calm, conditions, laid).
  DERIVED. THE GIVEN ROWS OF THIS SEAT. 11 by the template 'for every input the law returns true; each argument reads behind the call as it read before'; 0 by the template 'total and deterministic' (their statements: YthehbckogieimaaGreatTotals.lean).
  GIVEN WITH THE SEED: the statements are not yours to turn. If you find one false, say at which input.
  Laid BY PROGRAM, IN A SANDBOX (cutbox-rows.mjs): the forced cells as the released guide's own fill.sh prints them over the translation 41d6b106c63362fb… (all of the seat's roots in one cut). By AI agents, Wed Nov 11 2026. No macro, syntax, notation, axiom, sorry.
-/
import Derived.Test.YthehbckogieimaaGreatChecked
import GoSem.Claim
import GoSem.ClaimJoined
import GoSem.ClaimMapViews
import Derived.JoinedTies
import Derived.KernelRfl
namespace Go.Proofs.YthehbckogieimaaGreat
/- THE CELL 'sum', in the pinned program and in every row, IS THE sha256 OF THE DUMP (.gsa) THAT YthehbckogieimaaGreatProg.lean LOADS. Nothing in Lean hashes anything: it is a label: what it is worth is what the hold of that sum in a sandbox is worth. -/
noncomputable def Tryz.pinned : Pinned := { name := "ythehbckogieimaagreat", sum := "41d6b106c63362fb5693c7a8408e9342dc456ce05a93b486d48759c7289a8016", checked := Tryz.checked }
namespace Rows
def none {H : Type} : Left H := { results := [], args := [] }

/-- 'cayleylaw12.BlockAlls': WHATEVER THE INPUT: true; the input reads as it did. -/
def blockAllsSpec : ChangeSpec := { name := "blockAlls", fn := fun _ => fun
  | [d] => { results := [.lit (.bool true)], args := [d] }
  | _ => none }
def blockAllsRow : OpenClaim := { program := "ythehbckogieimaagreat", sum := "41d6b106c63362fb5693c7a8408e9342dc456ce05a93b486d48759c7289a8016", func := "cayley/cayleylaw12.BlockAlls", spec := "blockAlls", unfollowed := true, recurses := true, plainKeys := false, apart := false }
def BlockAllsSaid : Prop := blockAllsRow.holds Tryz.pinned (OpenSpec.ofChange blockAllsSpec)

/-- ITS FALSE NEIGHBOUR: 'it returns false'. Refute it at one input. -/
def blockAllsWrong : ChangeSpec := { name := "blockAlls", fn := fun _ => fun
  | [d] => { results := [.lit (.bool false)], args := [d] }
  | _ => none }
def BlockAllsWrongFalsely : Prop := blockAllsRow.holds Tryz.pinned (OpenSpec.ofChange blockAllsWrong)

/-- 'cayleylaw12.BlockFinest': WHATEVER THE INPUT: true; the input reads as it did. -/
def blockFinestSpec : ChangeSpec := { name := "blockFinest", fn := fun _ => fun
  | [d1, d2, d3, d4] => { results := [.lit (.bool true)], args := [d1, d2, d3, d4] }
  | _ => none }
def blockFinestRow : OpenClaim := { program := "ythehbckogieimaagreat", sum := "41d6b106c63362fb5693c7a8408e9342dc456ce05a93b486d48759c7289a8016", func := "cayley/cayleylaw12.BlockFinest", spec := "blockFinest", unfollowed := true, recurses := true, plainKeys := false, apart := false }
def BlockFinestSaid : Prop := blockFinestRow.holds Tryz.pinned (OpenSpec.ofChange blockFinestSpec)

/-- ITS FALSE NEIGHBOUR: 'it returns false'. Refute it at one input. -/
def blockFinestWrong : ChangeSpec := { name := "blockFinest", fn := fun _ => fun
  | [d1, d2, d3, d4] => { results := [.lit (.bool false)], args := [d1, d2, d3, d4] }
  | _ => none }
def BlockFinestWrongFalsely : Prop := blockFinestRow.holds Tryz.pinned (OpenSpec.ofChange blockFinestWrong)

/-- 'cayleylaw12.BlockLengths': WHATEVER THE INPUT: true; the input reads as it did. -/
def blockLengthsSpec : ChangeSpec := { name := "blockLengths", fn := fun _ => fun
  | [d] => { results := [.lit (.bool true)], args := [d] }
  | _ => none }
def blockLengthsRow : OpenClaim := { program := "ythehbckogieimaagreat", sum := "41d6b106c63362fb5693c7a8408e9342dc456ce05a93b486d48759c7289a8016", func := "cayley/cayleylaw12.BlockLengths", spec := "blockLengths", unfollowed := true, recurses := true, plainKeys := false, apart := false }
def BlockLengthsSaid : Prop := blockLengthsRow.holds Tryz.pinned (OpenSpec.ofChange blockLengthsSpec)

/-- ITS FALSE NEIGHBOUR: 'it returns false'. Refute it at one input. -/
def blockLengthsWrong : ChangeSpec := { name := "blockLengths", fn := fun _ => fun
  | [d] => { results := [.lit (.bool false)], args := [d] }
  | _ => none }
def BlockLengthsWrongFalsely : Prop := blockLengthsRow.holds Tryz.pinned (OpenSpec.ofChange blockLengthsWrong)

/-- 'cayleylaw12.BlockMoves': WHATEVER THE INPUT: true; the input reads as it did. -/
def blockMovesSpec : ChangeSpec := { name := "blockMoves", fn := fun _ => fun
  | [d] => { results := [.lit (.bool true)], args := [d] }
  | _ => none }
def blockMovesRow : OpenClaim := { program := "ythehbckogieimaagreat", sum := "41d6b106c63362fb5693c7a8408e9342dc456ce05a93b486d48759c7289a8016", func := "cayley/cayleylaw12.BlockMoves", spec := "blockMoves", unfollowed := true, recurses := true, plainKeys := false, apart := false }
def BlockMovesSaid : Prop := blockMovesRow.holds Tryz.pinned (OpenSpec.ofChange blockMovesSpec)

/-- ITS FALSE NEIGHBOUR: 'it returns false'. Refute it at one input. -/
def blockMovesWrong : ChangeSpec := { name := "blockMoves", fn := fun _ => fun
  | [d] => { results := [.lit (.bool false)], args := [d] }
  | _ => none }
def BlockMovesWrongFalsely : Prop := blockMovesRow.holds Tryz.pinned (OpenSpec.ofChange blockMovesWrong)

/-- 'cayleylaw08.ChainAnswers': WHATEVER THE INPUT: true; the input reads as it did. -/
def chainAnswersSpec : ChangeSpec := { name := "chainAnswers", fn := fun _ => fun
  | [d1, d2, d3, d4] => { results := [.lit (.bool true)], args := [d1, d2, d3, d4] }
  | _ => none }
def chainAnswersRow : OpenClaim := { program := "ythehbckogieimaagreat", sum := "41d6b106c63362fb5693c7a8408e9342dc456ce05a93b486d48759c7289a8016", func := "cayley/cayleylaw08.ChainAnswers", spec := "chainAnswers", unfollowed := true, recurses := true, plainKeys := false, apart := false }
def ChainAnswersSaid : Prop := chainAnswersRow.holds Tryz.pinned (OpenSpec.ofChange chainAnswersSpec)

/-- ITS FALSE NEIGHBOUR: 'it returns false'. Refute it at one input. -/
def chainAnswersWrong : ChangeSpec := { name := "chainAnswers", fn := fun _ => fun
  | [d1, d2, d3, d4] => { results := [.lit (.bool false)], args := [d1, d2, d3, d4] }
  | _ => none }
def ChainAnswersWrongFalsely : Prop := chainAnswersRow.holds Tryz.pinned (OpenSpec.ofChange chainAnswersWrong)

/-- 'cayleylaw26.HomImages': WHATEVER THE INPUT: true; the input reads as it did. -/
def homImagesSpec : ChangeSpec := { name := "homImages", fn := fun _ => fun
  | [d1, d2, d3, d4] => { results := [.lit (.bool true)], args := [d1, d2, d3, d4] }
  | _ => none }
def homImagesRow : OpenClaim := { program := "ythehbckogieimaagreat", sum := "41d6b106c63362fb5693c7a8408e9342dc456ce05a93b486d48759c7289a8016", func := "cayley/cayleylaw26.HomImages", spec := "homImages", unfollowed := true, recurses := true, plainKeys := false, apart := false }
def HomImagesSaid : Prop := homImagesRow.holds Tryz.pinned (OpenSpec.ofChange homImagesSpec)

/-- ITS FALSE NEIGHBOUR: 'it returns false'. Refute it at one input. -/
def homImagesWrong : ChangeSpec := { name := "homImages", fn := fun _ => fun
  | [d1, d2, d3, d4] => { results := [.lit (.bool false)], args := [d1, d2, d3, d4] }
  | _ => none }
def HomImagesWrongFalsely : Prop := homImagesRow.holds Tryz.pinned (OpenSpec.ofChange homImagesWrong)

/-- 'cayleylaw26.HomCounts': WHATEVER THE INPUT: true; the input reads as it did. -/
def homCountsSpec : ChangeSpec := { name := "homCounts", fn := fun _ => fun
  | [d1, d2] => { results := [.lit (.bool true)], args := [d1, d2] }
  | _ => none }
def homCountsRow : OpenClaim := { program := "ythehbckogieimaagreat", sum := "41d6b106c63362fb5693c7a8408e9342dc456ce05a93b486d48759c7289a8016", func := "cayley/cayleylaw26.HomCounts", spec := "homCounts", unfollowed := true, recurses := true, plainKeys := false, apart := false }
def HomCountsSaid : Prop := homCountsRow.holds Tryz.pinned (OpenSpec.ofChange homCountsSpec)

/-- ITS FALSE NEIGHBOUR: 'it returns false'. Refute it at one input. -/
def homCountsWrong : ChangeSpec := { name := "homCounts", fn := fun _ => fun
  | [d1, d2] => { results := [.lit (.bool false)], args := [d1, d2] }
  | _ => none }
def HomCountsWrongFalsely : Prop := homCountsRow.holds Tryz.pinned (OpenSpec.ofChange homCountsWrong)

/-- 'cayleylaw26.HomKnown': WHATEVER THE INPUT: true; the input reads as it did. -/
def homKnownSpec : ChangeSpec := { name := "homKnown", fn := fun _ => fun
  | [] => { results := [.lit (.bool true)], args := [] }
  | _ => none }
def homKnownRow : OpenClaim := { program := "ythehbckogieimaagreat", sum := "41d6b106c63362fb5693c7a8408e9342dc456ce05a93b486d48759c7289a8016", func := "cayley/cayleylaw26.HomKnown", spec := "homKnown", unfollowed := true, recurses := true, plainKeys := false, apart := false }
def HomKnownSaid : Prop := homKnownRow.holds Tryz.pinned (OpenSpec.ofChange homKnownSpec)

/-- ITS FALSE NEIGHBOUR: 'it returns false'. Refute it at one input. -/
def homKnownWrong : ChangeSpec := { name := "homKnown", fn := fun _ => fun
  | [] => { results := [.lit (.bool false)], args := [] }
  | _ => none }
def HomKnownWrongFalsely : Prop := homKnownRow.holds Tryz.pinned (OpenSpec.ofChange homKnownWrong)

/-- 'cayleylaw26.HomPairs': WHATEVER THE INPUT: true; the input reads as it did. -/
def homPairsSpec : ChangeSpec := { name := "homPairs", fn := fun _ => fun
  | [d1, d2, d3] => { results := [.lit (.bool true)], args := [d1, d2, d3] }
  | _ => none }
def homPairsRow : OpenClaim := { program := "ythehbckogieimaagreat", sum := "41d6b106c63362fb5693c7a8408e9342dc456ce05a93b486d48759c7289a8016", func := "cayley/cayleylaw26.HomPairs", spec := "homPairs", unfollowed := true, recurses := true, plainKeys := false, apart := false }
def HomPairsSaid : Prop := homPairsRow.holds Tryz.pinned (OpenSpec.ofChange homPairsSpec)

/-- ITS FALSE NEIGHBOUR: 'it returns false'. Refute it at one input. -/
def homPairsWrong : ChangeSpec := { name := "homPairs", fn := fun _ => fun
  | [d1, d2, d3] => { results := [.lit (.bool false)], args := [d1, d2, d3] }
  | _ => none }
def HomPairsWrongFalsely : Prop := homPairsRow.holds Tryz.pinned (OpenSpec.ofChange homPairsWrong)

/-- 'cayleylaw26.HomProducts': WHATEVER THE INPUT: true; the input reads as it did. -/
def homProductsSpec : ChangeSpec := { name := "homProducts", fn := fun _ => fun
  | [d1, d2, d3, d4, d5] => { results := [.lit (.bool true)], args := [d1, d2, d3, d4, d5] }
  | _ => none }
def homProductsRow : OpenClaim := { program := "ythehbckogieimaagreat", sum := "41d6b106c63362fb5693c7a8408e9342dc456ce05a93b486d48759c7289a8016", func := "cayley/cayleylaw26.HomProducts", spec := "homProducts", unfollowed := true, recurses := true, plainKeys := false, apart := false }
def HomProductsSaid : Prop := homProductsRow.holds Tryz.pinned (OpenSpec.ofChange homProductsSpec)

/-- ITS FALSE NEIGHBOUR: 'it returns false'. Refute it at one input. -/
def homProductsWrong : ChangeSpec := { name := "homProducts", fn := fun _ => fun
  | [d1, d2, d3, d4, d5] => { results := [.lit (.bool false)], args := [d1, d2, d3, d4, d5] }
  | _ => none }
def HomProductsWrongFalsely : Prop := homProductsRow.holds Tryz.pinned (OpenSpec.ofChange homProductsWrong)

/-- 'cayleylaw35.PuzzleSmall': WHATEVER THE INPUT: true; the input reads as it did. -/
def puzzleSmallSpec : ChangeSpec := { name := "puzzleSmall", fn := fun _ => fun
  | [d1, d2] => { results := [.lit (.bool true)], args := [d1, d2] }
  | _ => none }
def puzzleSmallRow : OpenClaim := { program := "ythehbckogieimaagreat", sum := "41d6b106c63362fb5693c7a8408e9342dc456ce05a93b486d48759c7289a8016", func := "cayley/cayleylaw35.PuzzleSmall", spec := "puzzleSmall", unfollowed := true, recurses := true, plainKeys := false, apart := false }
def PuzzleSmallSaid : Prop := puzzleSmallRow.holds Tryz.pinned (OpenSpec.ofChange puzzleSmallSpec)

/-- ITS FALSE NEIGHBOUR: 'it returns false'. Refute it at one input. -/
def puzzleSmallWrong : ChangeSpec := { name := "puzzleSmall", fn := fun _ => fun
  | [d1, d2] => { results := [.lit (.bool false)], args := [d1, d2] }
  | _ => none }
def PuzzleSmallWrongFalsely : Prop := puzzleSmallRow.holds Tryz.pinned (OpenSpec.ofChange puzzleSmallWrong)

/- THE SECOND FORM. 'bulk': how many values and letters a reading holds, each counted each time it is reached (what is shared counts as often as it is met; a slice's spare places count too). A statement '..UptoSaid' is the law's where the arguments, and the package variables that the reading takes, are together of bulk at most 1048576: NARROWER than '..Said'. Prove '..Said' where nothing that the law and all that it calls make is longer than what came in: it says more and counts as full. Else prove '..UptoSaid'. A law counts once. -/
mutual
def uptoBulk {H : Type} : DataW H → Nat
  | .lit (.string bytes) => bytes.length + 1
  | .lit _ => 1
  | .nil => 1
  | .ptr d => uptoBulk d + 1
  | .slice elems spare => uptoBulkAll elems + uptoBulkAll spare + 1
  | .agg parts => uptoBulkAll parts + 1
  | .iface _ d => uptoBulk d + 1
  | .map entries => uptoBulkEntries entries + 1
  | .held _ => 1
def uptoBulkAll {H : Type} : List (DataW H) → Nat
  | [] => 0
  | d :: r => uptoBulk d + uptoBulkAll r
def uptoBulkEntries {H : Type} : List (Lit × DataW H) → Nat
  | [] => 0
  | x :: r => uptoBulkEntry x + uptoBulkEntries r
def uptoBulkEntry {H : Type} : Lit × DataW H → Nat
  | (.string bytes, d) => bytes.length + uptoBulk d + 1
  | (_, d) => uptoBulk d + 1
 end
def uptoSmall : (H : Type) → List (DataW H) → Bool := fun _ ds => decide (uptoBulkAll ds ≤ 1048576)
def OpenSpec.upto (s : _root_.Go.ChangeSpec) : _root_.Go.OpenSpec := { _root_.Go.OpenSpec.ofChange s with cond := some uptoSmall }

/-- 'cayleylaw12.BlockAlls', WHERE WHAT IT READS IS OF BULK AT MOST 1048576: true; the input reads as it did. -/
def blockAllsUptoRow : OpenClaim := { program := "ythehbckogieimaagreat", sum := "41d6b106c63362fb5693c7a8408e9342dc456ce05a93b486d48759c7289a8016", func := "cayley/cayleylaw12.BlockAlls", spec := "blockAlls", unfollowed := true, recurses := true, plainKeys := false, apart := false, narrowed := true }
def BlockAllsUptoSaid : Prop := blockAllsUptoRow.holds Tryz.pinned (OpenSpec.upto blockAllsSpec)

/-- 'cayleylaw12.BlockFinest', WHERE WHAT IT READS IS OF BULK AT MOST 1048576: true; the input reads as it did. -/
def blockFinestUptoRow : OpenClaim := { program := "ythehbckogieimaagreat", sum := "41d6b106c63362fb5693c7a8408e9342dc456ce05a93b486d48759c7289a8016", func := "cayley/cayleylaw12.BlockFinest", spec := "blockFinest", unfollowed := true, recurses := true, plainKeys := false, apart := false, narrowed := true }
def BlockFinestUptoSaid : Prop := blockFinestUptoRow.holds Tryz.pinned (OpenSpec.upto blockFinestSpec)

/-- 'cayleylaw12.BlockLengths', WHERE WHAT IT READS IS OF BULK AT MOST 1048576: true; the input reads as it did. -/
def blockLengthsUptoRow : OpenClaim := { program := "ythehbckogieimaagreat", sum := "41d6b106c63362fb5693c7a8408e9342dc456ce05a93b486d48759c7289a8016", func := "cayley/cayleylaw12.BlockLengths", spec := "blockLengths", unfollowed := true, recurses := true, plainKeys := false, apart := false, narrowed := true }
def BlockLengthsUptoSaid : Prop := blockLengthsUptoRow.holds Tryz.pinned (OpenSpec.upto blockLengthsSpec)

/-- 'cayleylaw12.BlockMoves', WHERE WHAT IT READS IS OF BULK AT MOST 1048576: true; the input reads as it did. -/
def blockMovesUptoRow : OpenClaim := { program := "ythehbckogieimaagreat", sum := "41d6b106c63362fb5693c7a8408e9342dc456ce05a93b486d48759c7289a8016", func := "cayley/cayleylaw12.BlockMoves", spec := "blockMoves", unfollowed := true, recurses := true, plainKeys := false, apart := false, narrowed := true }
def BlockMovesUptoSaid : Prop := blockMovesUptoRow.holds Tryz.pinned (OpenSpec.upto blockMovesSpec)

/-- 'cayleylaw08.ChainAnswers', WHERE WHAT IT READS IS OF BULK AT MOST 1048576: true; the input reads as it did. -/
def chainAnswersUptoRow : OpenClaim := { program := "ythehbckogieimaagreat", sum := "41d6b106c63362fb5693c7a8408e9342dc456ce05a93b486d48759c7289a8016", func := "cayley/cayleylaw08.ChainAnswers", spec := "chainAnswers", unfollowed := true, recurses := true, plainKeys := false, apart := false, narrowed := true }
def ChainAnswersUptoSaid : Prop := chainAnswersUptoRow.holds Tryz.pinned (OpenSpec.upto chainAnswersSpec)

/-- 'cayleylaw26.HomImages', WHERE WHAT IT READS IS OF BULK AT MOST 1048576: true; the input reads as it did. -/
def homImagesUptoRow : OpenClaim := { program := "ythehbckogieimaagreat", sum := "41d6b106c63362fb5693c7a8408e9342dc456ce05a93b486d48759c7289a8016", func := "cayley/cayleylaw26.HomImages", spec := "homImages", unfollowed := true, recurses := true, plainKeys := false, apart := false, narrowed := true }
def HomImagesUptoSaid : Prop := homImagesUptoRow.holds Tryz.pinned (OpenSpec.upto homImagesSpec)

/-- 'cayleylaw26.HomCounts', WHERE WHAT IT READS IS OF BULK AT MOST 1048576: true; the input reads as it did. -/
def homCountsUptoRow : OpenClaim := { program := "ythehbckogieimaagreat", sum := "41d6b106c63362fb5693c7a8408e9342dc456ce05a93b486d48759c7289a8016", func := "cayley/cayleylaw26.HomCounts", spec := "homCounts", unfollowed := true, recurses := true, plainKeys := false, apart := false, narrowed := true }
def HomCountsUptoSaid : Prop := homCountsUptoRow.holds Tryz.pinned (OpenSpec.upto homCountsSpec)

/-- 'cayleylaw26.HomKnown', WHERE WHAT IT READS IS OF BULK AT MOST 1048576: true; the input reads as it did. -/
def homKnownUptoRow : OpenClaim := { program := "ythehbckogieimaagreat", sum := "41d6b106c63362fb5693c7a8408e9342dc456ce05a93b486d48759c7289a8016", func := "cayley/cayleylaw26.HomKnown", spec := "homKnown", unfollowed := true, recurses := true, plainKeys := false, apart := false, narrowed := true }
def HomKnownUptoSaid : Prop := homKnownUptoRow.holds Tryz.pinned (OpenSpec.upto homKnownSpec)

/-- 'cayleylaw26.HomPairs', WHERE WHAT IT READS IS OF BULK AT MOST 1048576: true; the input reads as it did. -/
def homPairsUptoRow : OpenClaim := { program := "ythehbckogieimaagreat", sum := "41d6b106c63362fb5693c7a8408e9342dc456ce05a93b486d48759c7289a8016", func := "cayley/cayleylaw26.HomPairs", spec := "homPairs", unfollowed := true, recurses := true, plainKeys := false, apart := false, narrowed := true }
def HomPairsUptoSaid : Prop := homPairsUptoRow.holds Tryz.pinned (OpenSpec.upto homPairsSpec)

/-- 'cayleylaw26.HomProducts', WHERE WHAT IT READS IS OF BULK AT MOST 1048576: true; the input reads as it did. -/
def homProductsUptoRow : OpenClaim := { program := "ythehbckogieimaagreat", sum := "41d6b106c63362fb5693c7a8408e9342dc456ce05a93b486d48759c7289a8016", func := "cayley/cayleylaw26.HomProducts", spec := "homProducts", unfollowed := true, recurses := true, plainKeys := false, apart := false, narrowed := true }
def HomProductsUptoSaid : Prop := homProductsUptoRow.holds Tryz.pinned (OpenSpec.upto homProductsSpec)

/-- 'cayleylaw35.PuzzleSmall', WHERE WHAT IT READS IS OF BULK AT MOST 1048576: true; the input reads as it did. -/
def puzzleSmallUptoRow : OpenClaim := { program := "ythehbckogieimaagreat", sum := "41d6b106c63362fb5693c7a8408e9342dc456ce05a93b486d48759c7289a8016", func := "cayley/cayleylaw35.PuzzleSmall", spec := "puzzleSmall", unfollowed := true, recurses := true, plainKeys := false, apart := false, narrowed := true }
def PuzzleSmallUptoSaid : Prop := puzzleSmallUptoRow.holds Tryz.pinned (OpenSpec.upto puzzleSmallSpec)

end Rows
end Go.Proofs.YthehbckogieimaaGreat
