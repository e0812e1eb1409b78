/-
  No cell of these rows narrows 'for every input' (looked for: loops, veiled, ifaces, maps, wideKeys, modest, calm, conditions, laid).
  DERIVED. THE GIVEN ROWS OF THIS SEAT. 11 by the template 'for every input the law returns true; each argument reads behind the call as it read before'; 0 by the template 'total and deterministic' (their statements: YtcfomoknlchemaaTotals.lean).
  GIVEN WITH THE SEED: the statements are not yours to turn. If you find one false, say at which input.
  Laid BY PROGRAM, IN A SANDBOX (cutbox-rows.mjs): the forced cells as the released guide's own fill.sh prints them over the translation b40c0989e57b98ef… (all of the seat's roots in one cut). By AI agents, Wed Nov 11 2026. No macro, syntax, notation, axiom, sorry.
-/
import Derived.Test.YtcfomoknlchemaaChecked
import GoSem.Claim
import GoSem.ClaimJoined
import GoSem.ClaimMapViews
import Derived.JoinedTies
import Derived.KernelRfl
namespace Go.Proofs.Ytcfomoknlchemaa
/- THE CELL 'sum', in the pinned program and in every row, IS THE sha256 OF THE DUMP (.gsa) THAT YtcfomoknlchemaaProg.lean LOADS. Nothing in Lean hashes anything: it is a label: what it is worth is what the hold of that sum in a sandbox is worth. -/
noncomputable def Try.pinned : Pinned := { name := "ytcfomoknlchemaa", sum := "b40c0989e57b98ef20343b2b18a5fc180590520673d073e45c51efe1cd71ada9", checked := Try.checked }
namespace Rows
def none {H : Type} : Left H := { results := [], args := [] }

/-- 'cayleylaw08.ChainCounts': WHATEVER THE INPUT: true; the input reads as it did. -/
def chainCountsSpec : ChangeSpec := { name := "chainCounts", fn := fun _ => fun
  | [d1, d2] => { results := [.lit (.bool true)], args := [d1, d2] }
  | _ => none }
def chainCountsRow : OpenClaim := { program := "ytcfomoknlchemaa", sum := "b40c0989e57b98ef20343b2b18a5fc180590520673d073e45c51efe1cd71ada9", func := "cayley/cayleylaw08.ChainCounts", spec := "chainCounts", unfollowed := true, recurses := true, plainKeys := false, apart := false }
def ChainCountsSaid : Prop := chainCountsRow.holds Try.pinned (OpenSpec.ofChange chainCountsSpec)

/-- ITS FALSE NEIGHBOUR: 'it returns false'. Refute it at one input. -/
def chainCountsWrong : ChangeSpec := { name := "chainCounts", fn := fun _ => fun
  | [d1, d2] => { results := [.lit (.bool false)], args := [d1, d2] }
  | _ => none }
def ChainCountsWrongFalsely : Prop := chainCountsRow.holds Try.pinned (OpenSpec.ofChange chainCountsWrong)

/-- 'cayleylaw08.ChainFactors': WHATEVER THE INPUT: true; the input reads as it did. -/
def chainFactorsSpec : ChangeSpec := { name := "chainFactors", fn := fun _ => fun
  | [d] => { results := [.lit (.bool true)], args := [d] }
  | _ => none }
def chainFactorsRow : OpenClaim := { program := "ytcfomoknlchemaa", sum := "b40c0989e57b98ef20343b2b18a5fc180590520673d073e45c51efe1cd71ada9", func := "cayley/cayleylaw08.ChainFactors", spec := "chainFactors", unfollowed := true, recurses := true, plainKeys := false, apart := false }
def ChainFactorsSaid : Prop := chainFactorsRow.holds Try.pinned (OpenSpec.ofChange chainFactorsSpec)

/-- ITS FALSE NEIGHBOUR: 'it returns false'. Refute it at one input. -/
def chainFactorsWrong : ChangeSpec := { name := "chainFactors", fn := fun _ => fun
  | [d] => { results := [.lit (.bool false)], args := [d] }
  | _ => none }
def ChainFactorsWrongFalsely : Prop := chainFactorsRow.holds Try.pinned (OpenSpec.ofChange chainFactorsWrong)

/-- 'cayleylaw08.ChainSame': WHATEVER THE INPUT: true; the input reads as it did. -/
def chainSameSpec : ChangeSpec := { name := "chainSame", fn := fun _ => fun
  | [d1, d2] => { results := [.lit (.bool true)], args := [d1, d2] }
  | _ => none }
def chainSameRow : OpenClaim := { program := "ytcfomoknlchemaa", sum := "b40c0989e57b98ef20343b2b18a5fc180590520673d073e45c51efe1cd71ada9", func := "cayley/cayleylaw08.ChainSame", spec := "chainSame", unfollowed := true, recurses := true, plainKeys := false, apart := false }
def ChainSameSaid : Prop := chainSameRow.holds Try.pinned (OpenSpec.ofChange chainSameSpec)

/-- ITS FALSE NEIGHBOUR: 'it returns false'. Refute it at one input. -/
def chainSameWrong : ChangeSpec := { name := "chainSame", fn := fun _ => fun
  | [d1, d2] => { results := [.lit (.bool false)], args := [d1, d2] }
  | _ => none }
def ChainSameWrongFalsely : Prop := chainSameRow.holds Try.pinned (OpenSpec.ofChange chainSameWrong)

/-- 'cayleylaw07.OrbitSets': WHATEVER THE INPUT: true; the input reads as it did. -/
def orbitSetsSpec : ChangeSpec := { name := "orbitSets", fn := fun _ => fun
  | [d1, d2] => { results := [.lit (.bool true)], args := [d1, d2] }
  | _ => none }
def orbitSetsRow : OpenClaim := { program := "ytcfomoknlchemaa", sum := "b40c0989e57b98ef20343b2b18a5fc180590520673d073e45c51efe1cd71ada9", func := "cayley/cayleylaw07.OrbitSets", spec := "orbitSets", unfollowed := true, recurses := true, plainKeys := false, apart := false }
def OrbitSetsSaid : Prop := orbitSetsRow.holds Try.pinned (OpenSpec.ofChange orbitSetsSpec)

/-- ITS FALSE NEIGHBOUR: 'it returns false'. Refute it at one input. -/
def orbitSetsWrong : ChangeSpec := { name := "orbitSets", fn := fun _ => fun
  | [d1, d2] => { results := [.lit (.bool false)], args := [d1, d2] }
  | _ => none }
def OrbitSetsWrongFalsely : Prop := orbitSetsRow.holds Try.pinned (OpenSpec.ofChange orbitSetsWrong)

/-- 'cayleylaw07.OrbitKnown': WHATEVER THE INPUT: true; the input reads as it did. -/
def orbitKnownSpec : ChangeSpec := { name := "orbitKnown", fn := fun _ => fun
  | [] => { results := [.lit (.bool true)], args := [] }
  | _ => none }
def orbitKnownRow : OpenClaim := { program := "ytcfomoknlchemaa", sum := "b40c0989e57b98ef20343b2b18a5fc180590520673d073e45c51efe1cd71ada9", func := "cayley/cayleylaw07.OrbitKnown", spec := "orbitKnown", unfollowed := true, recurses := true, plainKeys := false, apart := false }
def OrbitKnownSaid : Prop := orbitKnownRow.holds Try.pinned (OpenSpec.ofChange orbitKnownSpec)

/-- ITS FALSE NEIGHBOUR: 'it returns false'. Refute it at one input. -/
def orbitKnownWrong : ChangeSpec := { name := "orbitKnown", fn := fun _ => fun
  | [] => { results := [.lit (.bool false)], args := [] }
  | _ => none }
def OrbitKnownWrongFalsely : Prop := orbitKnownRow.holds Try.pinned (OpenSpec.ofChange orbitKnownWrong)

/-- 'cayleylaw07.OrbitParts': WHATEVER THE INPUT: true; the input reads as it did. -/
def orbitPartsSpec : ChangeSpec := { name := "orbitParts", fn := fun _ => fun
  | [d] => { results := [.lit (.bool true)], args := [d] }
  | _ => none }
def orbitPartsRow : OpenClaim := { program := "ytcfomoknlchemaa", sum := "b40c0989e57b98ef20343b2b18a5fc180590520673d073e45c51efe1cd71ada9", func := "cayley/cayleylaw07.OrbitParts", spec := "orbitParts", unfollowed := true, recurses := true, plainKeys := false, apart := false }
def OrbitPartsSaid : Prop := orbitPartsRow.holds Try.pinned (OpenSpec.ofChange orbitPartsSpec)

/-- ITS FALSE NEIGHBOUR: 'it returns false'. Refute it at one input. -/
def orbitPartsWrong : ChangeSpec := { name := "orbitParts", fn := fun _ => fun
  | [d] => { results := [.lit (.bool false)], args := [d] }
  | _ => none }
def OrbitPartsWrongFalsely : Prop := orbitPartsRow.holds Try.pinned (OpenSpec.ofChange orbitPartsWrong)

/-- 'cayleylaw07.OrbitPaths': WHATEVER THE INPUT: true; the input reads as it did. -/
def orbitPathsSpec : ChangeSpec := { name := "orbitPaths", fn := fun _ => fun
  | [d1, d2, d3] => { results := [.lit (.bool true)], args := [d1, d2, d3] }
  | _ => none }
def orbitPathsRow : OpenClaim := { program := "ytcfomoknlchemaa", sum := "b40c0989e57b98ef20343b2b18a5fc180590520673d073e45c51efe1cd71ada9", func := "cayley/cayleylaw07.OrbitPaths", spec := "orbitPaths", unfollowed := true, recurses := true, plainKeys := false, apart := false }
def OrbitPathsSaid : Prop := orbitPathsRow.holds Try.pinned (OpenSpec.ofChange orbitPathsSpec)

/-- ITS FALSE NEIGHBOUR: 'it returns false'. Refute it at one input. -/
def orbitPathsWrong : ChangeSpec := { name := "orbitPaths", fn := fun _ => fun
  | [d1, d2, d3] => { results := [.lit (.bool false)], args := [d1, d2, d3] }
  | _ => none }
def OrbitPathsWrongFalsely : Prop := orbitPathsRow.holds Try.pinned (OpenSpec.ofChange orbitPathsWrong)

/-- 'cayleylaw07.OrbitCounts': WHATEVER THE INPUT: true; the input reads as it did. -/
def orbitCountsSpec : ChangeSpec := { name := "orbitCounts", fn := fun _ => fun
  | [d1, d2] => { results := [.lit (.bool true)], args := [d1, d2] }
  | _ => none }
def orbitCountsRow : OpenClaim := { program := "ytcfomoknlchemaa", sum := "b40c0989e57b98ef20343b2b18a5fc180590520673d073e45c51efe1cd71ada9", func := "cayley/cayleylaw07.OrbitCounts", spec := "orbitCounts", unfollowed := true, recurses := true, plainKeys := false, apart := false }
def OrbitCountsSaid : Prop := orbitCountsRow.holds Try.pinned (OpenSpec.ofChange orbitCountsSpec)

/-- ITS FALSE NEIGHBOUR: 'it returns false'. Refute it at one input. -/
def orbitCountsWrong : ChangeSpec := { name := "orbitCounts", fn := fun _ => fun
  | [d1, d2] => { results := [.lit (.bool false)], args := [d1, d2] }
  | _ => none }
def OrbitCountsWrongFalsely : Prop := orbitCountsRow.holds Try.pinned (OpenSpec.ofChange orbitCountsWrong)

/-- 'cayleylaw12.BlockLeast': WHATEVER THE INPUT: true; the input reads as it did. -/
def blockLeastSpec : ChangeSpec := { name := "blockLeast", fn := fun _ => fun
  | [d1, d2, d3] => { results := [.lit (.bool true)], args := [d1, d2, d3] }
  | _ => none }
def blockLeastRow : OpenClaim := { program := "ytcfomoknlchemaa", sum := "b40c0989e57b98ef20343b2b18a5fc180590520673d073e45c51efe1cd71ada9", func := "cayley/cayleylaw12.BlockLeast", spec := "blockLeast", unfollowed := true, recurses := true, plainKeys := false, apart := false }
def BlockLeastSaid : Prop := blockLeastRow.holds Try.pinned (OpenSpec.ofChange blockLeastSpec)

/-- ITS FALSE NEIGHBOUR: 'it returns false'. Refute it at one input. -/
def blockLeastWrong : ChangeSpec := { name := "blockLeast", fn := fun _ => fun
  | [d1, d2, d3] => { results := [.lit (.bool false)], args := [d1, d2, d3] }
  | _ => none }
def BlockLeastWrongFalsely : Prop := blockLeastRow.holds Try.pinned (OpenSpec.ofChange blockLeastWrong)

/-- 'cayleylaw12.BlockActions': WHATEVER THE INPUT: true; the input reads as it did. -/
def blockActionsSpec : ChangeSpec := { name := "blockActions", fn := fun _ => fun
  | [d1, d2] => { results := [.lit (.bool true)], args := [d1, d2] }
  | _ => none }
def blockActionsRow : OpenClaim := { program := "ytcfomoknlchemaa", sum := "b40c0989e57b98ef20343b2b18a5fc180590520673d073e45c51efe1cd71ada9", func := "cayley/cayleylaw12.BlockActions", spec := "blockActions", unfollowed := true, recurses := true, plainKeys := false, apart := false }
def BlockActionsSaid : Prop := blockActionsRow.holds Try.pinned (OpenSpec.ofChange blockActionsSpec)

/-- ITS FALSE NEIGHBOUR: 'it returns false'. Refute it at one input. -/
def blockActionsWrong : ChangeSpec := { name := "blockActions", fn := fun _ => fun
  | [d1, d2] => { results := [.lit (.bool false)], args := [d1, d2] }
  | _ => none }
def BlockActionsWrongFalsely : Prop := blockActionsRow.holds Try.pinned (OpenSpec.ofChange blockActionsWrong)

/-- 'cayleylaw12.BlockKnown': WHATEVER THE INPUT: true; the input reads as it did. -/
def blockKnownSpec : ChangeSpec := { name := "blockKnown", fn := fun _ => fun
  | [] => { results := [.lit (.bool true)], args := [] }
  | _ => none }
def blockKnownRow : OpenClaim := { program := "ytcfomoknlchemaa", sum := "b40c0989e57b98ef20343b2b18a5fc180590520673d073e45c51efe1cd71ada9", func := "cayley/cayleylaw12.BlockKnown", spec := "blockKnown", unfollowed := true, recurses := true, plainKeys := false, apart := false }
def BlockKnownSaid : Prop := blockKnownRow.holds Try.pinned (OpenSpec.ofChange blockKnownSpec)

/-- ITS FALSE NEIGHBOUR: 'it returns false'. Refute it at one input. -/
def blockKnownWrong : ChangeSpec := { name := "blockKnown", fn := fun _ => fun
  | [] => { results := [.lit (.bool false)], args := [] }
  | _ => none }
def BlockKnownWrongFalsely : Prop := blockKnownRow.holds Try.pinned (OpenSpec.ofChange blockKnownWrong)

/- THE SECOND FORM. 'bulk': how many values and letters a reading holds, each counted each time it is reached (what is shared counts as often as it is met; a slice's spare places count too). A statement '..UptoSaid' is the law's where the arguments, and the package variables that the reading takes, are together of bulk at most 1048576: NARROWER than '..Said'. Prove '..Said' where nothing that the law and all that it calls make is longer than what came in: it says more and counts as full. Else prove '..UptoSaid'. A law counts once. -/
mutual
def uptoBulk {H : Type} : DataW H → Nat
  | .lit (.string bytes) => bytes.length + 1
  | .lit _ => 1
  | .nil => 1
  | .ptr d => uptoBulk d + 1
  | .slice elems spare => uptoBulkAll elems + uptoBulkAll spare + 1
  | .agg parts => uptoBulkAll parts + 1
  | .iface _ d => uptoBulk d + 1
  | .map entries => uptoBulkEntries entries + 1
  | .held _ => 1
def uptoBulkAll {H : Type} : List (DataW H) → Nat
  | [] => 0
  | d :: r => uptoBulk d + uptoBulkAll r
def uptoBulkEntries {H : Type} : List (Lit × DataW H) → Nat
  | [] => 0
  | x :: r => uptoBulkEntry x + uptoBulkEntries r
def uptoBulkEntry {H : Type} : Lit × DataW H → Nat
  | (.string bytes, d) => bytes.length + uptoBulk d + 1
  | (_, d) => uptoBulk d + 1
 end
def uptoSmall : (H : Type) → List (DataW H) → Bool := fun _ ds => decide (uptoBulkAll ds ≤ 1048576)
def OpenSpec.upto (s : _root_.Go.ChangeSpec) : _root_.Go.OpenSpec := { _root_.Go.OpenSpec.ofChange s with cond := some uptoSmall }

/-- 'cayleylaw08.ChainCounts', WHERE WHAT IT READS IS OF BULK AT MOST 1048576: true; the input reads as it did. -/
def chainCountsUptoRow : OpenClaim := { program := "ytcfomoknlchemaa", sum := "b40c0989e57b98ef20343b2b18a5fc180590520673d073e45c51efe1cd71ada9", func := "cayley/cayleylaw08.ChainCounts", spec := "chainCounts", unfollowed := true, recurses := true, plainKeys := false, apart := false, narrowed := true }
def ChainCountsUptoSaid : Prop := chainCountsUptoRow.holds Try.pinned (OpenSpec.upto chainCountsSpec)

/-- 'cayleylaw08.ChainFactors', WHERE WHAT IT READS IS OF BULK AT MOST 1048576: true; the input reads as it did. -/
def chainFactorsUptoRow : OpenClaim := { program := "ytcfomoknlchemaa", sum := "b40c0989e57b98ef20343b2b18a5fc180590520673d073e45c51efe1cd71ada9", func := "cayley/cayleylaw08.ChainFactors", spec := "chainFactors", unfollowed := true, recurses := true, plainKeys := false, apart := false, narrowed := true }
def ChainFactorsUptoSaid : Prop := chainFactorsUptoRow.holds Try.pinned (OpenSpec.upto chainFactorsSpec)

/-- 'cayleylaw08.ChainSame', WHERE WHAT IT READS IS OF BULK AT MOST 1048576: true; the input reads as it did. -/
def chainSameUptoRow : OpenClaim := { program := "ytcfomoknlchemaa", sum := "b40c0989e57b98ef20343b2b18a5fc180590520673d073e45c51efe1cd71ada9", func := "cayley/cayleylaw08.ChainSame", spec := "chainSame", unfollowed := true, recurses := true, plainKeys := false, apart := false, narrowed := true }
def ChainSameUptoSaid : Prop := chainSameUptoRow.holds Try.pinned (OpenSpec.upto chainSameSpec)

/-- 'cayleylaw07.OrbitSets', WHERE WHAT IT READS IS OF BULK AT MOST 1048576: true; the input reads as it did. -/
def orbitSetsUptoRow : OpenClaim := { program := "ytcfomoknlchemaa", sum := "b40c0989e57b98ef20343b2b18a5fc180590520673d073e45c51efe1cd71ada9", func := "cayley/cayleylaw07.OrbitSets", spec := "orbitSets", unfollowed := true, recurses := true, plainKeys := false, apart := false, narrowed := true }
def OrbitSetsUptoSaid : Prop := orbitSetsUptoRow.holds Try.pinned (OpenSpec.upto orbitSetsSpec)

/-- 'cayleylaw07.OrbitKnown', WHERE WHAT IT READS IS OF BULK AT MOST 1048576: true; the input reads as it did. -/
def orbitKnownUptoRow : OpenClaim := { program := "ytcfomoknlchemaa", sum := "b40c0989e57b98ef20343b2b18a5fc180590520673d073e45c51efe1cd71ada9", func := "cayley/cayleylaw07.OrbitKnown", spec := "orbitKnown", unfollowed := true, recurses := true, plainKeys := false, apart := false, narrowed := true }
def OrbitKnownUptoSaid : Prop := orbitKnownUptoRow.holds Try.pinned (OpenSpec.upto orbitKnownSpec)

/-- 'cayleylaw07.OrbitParts', WHERE WHAT IT READS IS OF BULK AT MOST 1048576: true; the input reads as it did. -/
def orbitPartsUptoRow : OpenClaim := { program := "ytcfomoknlchemaa", sum := "b40c0989e57b98ef20343b2b18a5fc180590520673d073e45c51efe1cd71ada9", func := "cayley/cayleylaw07.OrbitParts", spec := "orbitParts", unfollowed := true, recurses := true, plainKeys := false, apart := false, narrowed := true }
def OrbitPartsUptoSaid : Prop := orbitPartsUptoRow.holds Try.pinned (OpenSpec.upto orbitPartsSpec)

/-- 'cayleylaw07.OrbitPaths', WHERE WHAT IT READS IS OF BULK AT MOST 1048576: true; the input reads as it did. -/
def orbitPathsUptoRow : OpenClaim := { program := "ytcfomoknlchemaa", sum := "b40c0989e57b98ef20343b2b18a5fc180590520673d073e45c51efe1cd71ada9", func := "cayley/cayleylaw07.OrbitPaths", spec := "orbitPaths", unfollowed := true, recurses := true, plainKeys := false, apart := false, narrowed := true }
def OrbitPathsUptoSaid : Prop := orbitPathsUptoRow.holds Try.pinned (OpenSpec.upto orbitPathsSpec)

/-- 'cayleylaw07.OrbitCounts', WHERE WHAT IT READS IS OF BULK AT MOST 1048576: true; the input reads as it did. -/
def orbitCountsUptoRow : OpenClaim := { program := "ytcfomoknlchemaa", sum := "b40c0989e57b98ef20343b2b18a5fc180590520673d073e45c51efe1cd71ada9", func := "cayley/cayleylaw07.OrbitCounts", spec := "orbitCounts", unfollowed := true, recurses := true, plainKeys := false, apart := false, narrowed := true }
def OrbitCountsUptoSaid : Prop := orbitCountsUptoRow.holds Try.pinned (OpenSpec.upto orbitCountsSpec)

/-- 'cayleylaw12.BlockLeast', WHERE WHAT IT READS IS OF BULK AT MOST 1048576: true; the input reads as it did. -/
def blockLeastUptoRow : OpenClaim := { program := "ytcfomoknlchemaa", sum := "b40c0989e57b98ef20343b2b18a5fc180590520673d073e45c51efe1cd71ada9", func := "cayley/cayleylaw12.BlockLeast", spec := "blockLeast", unfollowed := true, recurses := true, plainKeys := false, apart := false, narrowed := true }
def BlockLeastUptoSaid : Prop := blockLeastUptoRow.holds Try.pinned (OpenSpec.upto blockLeastSpec)

/-- 'cayleylaw12.BlockActions', WHERE WHAT IT READS IS OF BULK AT MOST 1048576: true; the input reads as it did. -/
def blockActionsUptoRow : OpenClaim := { program := "ytcfomoknlchemaa", sum := "b40c0989e57b98ef20343b2b18a5fc180590520673d073e45c51efe1cd71ada9", func := "cayley/cayleylaw12.BlockActions", spec := "blockActions", unfollowed := true, recurses := true, plainKeys := false, apart := false, narrowed := true }
def BlockActionsUptoSaid : Prop := blockActionsUptoRow.holds Try.pinned (OpenSpec.upto blockActionsSpec)

/-- 'cayleylaw12.BlockKnown', WHERE WHAT IT READS IS OF BULK AT MOST 1048576: true; the input reads as it did. -/
def blockKnownUptoRow : OpenClaim := { program := "ytcfomoknlchemaa", sum := "b40c0989e57b98ef20343b2b18a5fc180590520673d073e45c51efe1cd71ada9", func := "cayley/cayleylaw12.BlockKnown", spec := "blockKnown", unfollowed := true, recurses := true, plainKeys := false, apart := false, narrowed := true }
def BlockKnownUptoSaid : Prop := blockKnownUptoRow.holds Try.pinned (OpenSpec.upto blockKnownSpec)

end Rows
end Go.Proofs.Ytcfomoknlchemaa
